/- What the document's First comes to; what is called back in MixEach. -/
import Derived.Test.YtcdgenoakpmlbaaMixGet
import Derived.Test.YtcdgenoakpmlbaaMixMerges
namespace Go.Proofs.Ytcdgenoakpmlbaa.Mix
open Go.RowKit Go.Proofs.YtcdgenoakpmlbaaW.PrintWords Go.Proofs.YtcdgenoakpmlbaaW.PrintLast Go.Proofs.YtcdgenoakpmlbaaW.PrintMore
open Go.Proofs.Ytcdgenoakpmlbaa Go.Proofs.Ytcdgenoakpmlbaa.Vals Go.Proofs.Ytcdgenoakpmlbaa.Q Go.Proofs.Ytcdgenoakpmlbaa.U
set_option linter.unusedVariables false
set_option linter.unusedSimpArgs false

def firstFrom : Nat → List (List S32) → ByteArray → Int
  | _, [], _ => -1
  | i, l :: r, key => if (getB l key).2 = true then (i : Int) else firstFrom (i + 1) r key
theorem told_first {rows : List (List S32)} {T : List (Int × S32)} (h : Told rows T) {x : Int × S32} (hx : x ∈ T) : firstFrom 0 rows x.2.f0 = x.1 := by
  obtain ⟨i, hi, e, hp, hn⟩ := (h.2 x.1 x.2).1 hx
  have main : ∀ (d : Nat) (j : Nat), i - j = d → j ≤ i → firstFrom j (rows.drop j) x.2.f0 = (i : Int) := by
    intro d
    induction d with
    | zero =>
      intro j hd hj
      obtain rfl : j = i := by omega
      rw [List.drop_eq_getElem_cons hi]
      simp only [firstFrom]
      rw [if_pos (getB_snd.2 ⟨x.2, hp, rfl⟩)]
    | succ d ih =>
      intro j hd hj
      rw [List.drop_eq_getElem_cons (by omega)]
      simp only [firstFrom]
      rw [if_neg (fun h => by
        obtain ⟨p', hp', e'⟩ := getB_snd.1 h
        exact hn j (by omega) p' hp' e')]
      exact ih (j + 1) (by omega) (by omega)
  rw [e]
  exact main _ 0 rfl (by omega)
theorem get_calls {w : World} {A : Option Addr} {c : Nat} {l : List S32} (h : k32.C w A l.length l) (hc : l.length ≤ c) (hl : l.length ≤ 140737488355328) (key : ByteArray) :
    Calls Try.prog 23 #[.slice A l.length c, .string key] w fun e w' => e = .returned (.tuple #[.string (getB l key).1, .bool (getB l key).2]) ∧ Below w.heap.size w w' := by
  obtain ⟨k, hk⟩ := (get_ev l key hl).rounds
  refine (sluicegateref11_Get.calls k A c l key (getB l key).1 (getB l key).2 w h hc hk).mono ?_
  rintro e w' ⟨rfl, hd⟩
  exact ⟨rfl, hd.below⟩
set_option maxHeartbeats 4000000 in
theorem first_calls {w : World} {A : Option Addr} {c : Nat} {rows : List (List S32)} (h : (Kd.slice 32 k32).C w A rows.length rows) (hf : FewR rows) (hl : rows.length ≤ 1000000) (key : ByteArray) :
    Calls Try.prog 14 #[.slice A rows.length c, .string key] w fun e w' => e = .returned (.int .i64 (firstFrom 0 rows key)) ∧ Below w.heap.size w w' := by
  have H := Aside0.mk h
  have HF := Aside0.mk hf
  have g1 : ((rows.length : Nat) : Int) ≤ 1000000 := by omega
  clear h hf hl
  go_enter Try.func14, Try.ntmps14
  go_wp2_with fail
  go_loopg [5] rows.length (fun kq v5 wx => ∃ i : Nat, v5 = .int .i64 (i : Int) ∧ Aside0 (kq = rows.length - i ∧ i ≤ rows.length) ∧ Aside0 (Below w.heap.size w wx) ∧ Aside0 (firstFrom i (rows.drop i) key = firstFrom 0 rows key))
  case atStart => exact ⟨0, rfl, ⟨rfl, Nat.zero_le _⟩, ⟨Below.refl _ _⟩, ⟨rfl⟩⟩
  case round =>
    obtain ⟨i, rfl, HI, HB, HU⟩ := hrel
    by_cases hi : i < rows.length
    · have t1 : decide (i < rows.length) = true := decide_eq_true hi
      have g2 : (i : Int) < (rows.length : Int) := by omega
      have hrw := Kd.C_below H.out HB.out
      obtain ⟨ad, B, cc, rfl, r0, r1, r2⟩ := row_at hrw hi
      have HG := Aside0.mk (get_calls r2 r1 (HF.out.2 _ (List.getElem_mem hi)).1 key)
      have HU2 := Aside0.mk (show (if (getB rows[i] key).2 = true then (i : Int) else firstFrom (i + 1) (rows.drop (i + 1)) key) = firstFrom 0 rows key by rw [← HU.out, List.drop_eq_getElem_cons hi]; rfl)
      have HI2 := Aside0.mk hi
      obtain ⟨l, hll⟩ : ∃ l, rows[i] = l := ⟨_, rfl⟩
      rw [hll] at r0 HG HU2
      obtain ⟨G, hG⟩ : ∃ G, getB l key = G := ⟨_, rfl⟩
      rw [hG] at HG HU2
      clear hrw r1 r2 hi HU hll hG
      go_wp2_with fail
      refine HG.out.mono ?_
      rintro en w2 ⟨rfl, hb2⟩
      have HB2 := Aside0.mk (below_step HB.out hb2)
      clear hb2 HG HB r0
      obtain ⟨G1, G2⟩ := G
      cases G2
      · have HU3 := Aside0.mk ((if_neg (fun h => by cases h)).symm.trans HU2.out)
        clear HU2
        go_wp2_with fail
        go_roundg (rows.length - (i + 1))
        case measure => have := HI.out; have := HI2.out; omega
        case rel => exact ⟨i + 1, by go_num, ⟨rfl, HI2.out⟩, HB2, HU3⟩
      · have HU3 := Aside0.mk ((if_pos rfl).symm.trans HU2.out)
        clear HU2
        go_wp2_with fail
        go_ret
        exact ⟨congrArg (fun x => Ending.returned (Value.int .i64 x)) HU3.out, HB2.out⟩
    · have t1 : decide (i < rows.length) = false := decide_eq_false hi
      have HU2 := Aside0.mk (show (-1 : Int) = firstFrom 0 rows key by rw [← HU.out, List.drop_eq_nil_of_le (by omega)]; rfl)
      clear hi HU
      go_wp2_with fail
      go_ret
      exact ⟨congrArg (fun x => Ending.returned (Value.int .i64 x)) HU2.out, HB.out⟩
end Go.Proofs.Ytcdgenoakpmlbaa.Mix
