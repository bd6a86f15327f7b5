/- wire.Ops: what its call comes to. -/
import Derived.Test.YtfpdapdnmkadeaaWireOR
namespace Go.Proofs.Ytfpdapdnmkadeaa.Wire
open Go.RowKit Go.Proofs.YtfpdapdnmkadeaaW.PrintWords Go.Proofs.YtfpdapdnmkadeaaW.PrintLast Go.Proofs.YtfpdapdnmkadeaaW.PrintMore
open Go.Proofs.Ytfpdapdnmkadeaa Go.Proofs.Ytfpdapdnmkadeaa.Vals Go.Proofs.Ytfpdapdnmkadeaa.Word Go.Proofs.Ytfpdapdnmkadeaa.Q
open Go.Proofs.Ytfpdapdnmkadeaa.O (S52 k52 z52 rd_T52 at_T52 k52_mkM)
set_option linter.unusedVariables false
set_option linter.unusedSimpArgs false

theorem rdB_byte {k : Nat} {b : List Int} {e : Int} (h : Byte b) : Byte (rdB k b e) := by unfold rdB; exact (h.rawB _ _).rawB _ _
theorem rdOp_byte {b : List Int} {e : Int} (h : Byte b) : Byte (rdOp b e).2.1 := by
  have h1 : Byte (rawB b e ((1 : Nat) : Int)) := h.rawB _ _
  unfold rdOp rdK
  split
  · exact rdB_byte (rdB_byte h1)
  · split
    · exact rdB_byte h1
    · split
      · exact (rdB_byte (rdB_byte h1)).rawB _ _
      · split
        · exact h1
        · exact h1
def rOs : Nat → List Int → Int → Option (List S52 × List Int × Int)
  | 0, bs, e => some ([], bs, e)
  | n + 1, bs, e => if (rdOp bs e).2.2.2 = true then (rOs n (rdOp bs e).2.1 (rdOp bs e).2.2.1).map (fun r => ((rdOp bs e).1 :: r.1, r.2)) else none
def nO (b : List Int) : Nat := (num (rawO b 0 ((4 : Nat) : Int))).toNat
def okO (b : List Int) (l : List S52) : Prop := nO b ≤ 65536 ∧ rOs (nO b) (rawB b 0 ((4 : Nat) : Int)) (rawE b 0 ((4 : Nat) : Int)) = some (l, [], 0)
def XPost (w : World) (b : List Int) (e : Ending) (w' : World) : Prop :=
  (∀ l, okO b l → ∃ vl, e = .returned (.tuple #[vl, .int .i64 0]) ∧ Kd.R k52 52 w' w.heap.size (fun _ => True) vl l) ∧
  ((∀ l, ¬ okO b l) → e = .returned (.tuple #[.slice none 0 0, .int .i64 3])) ∧ Below w.heap.size w w'
theorem R_keeps52 {w w' : World} {B g : Nat} {v : Value} {xs : List S52} (h : Kd.R k52 52 w B (fun _ => True) v xs) (hk : Keeps (fun k => k = g) w w') (hg : g < B) : Kd.R k52 52 w' B (fun _ => True) v xs :=
  Kd.R_grown2 h rfl (row := some g) ⟨hk.os, hk.tape, hk.output, hk.size, fun k hk2 hn => hk.block k hk2 (fun e => hn (by rw [e]))⟩ (fun k hk2 h2 => by
    cases hk2
    have := Kd.R_base h g h2.symm
    omega)
theorem info_op : (Try.prog.info? 52).map (fun i => (i.zero, i.size, i.bytes)) = some (some (.agg #[.int .i64 0, .string ⟨#[]⟩, .string ⟨#[]⟩, .int .i64 0]), 4, 48) := by kernel_rfl

set_option maxHeartbeats 8000000 in
set_option maxRecDepth 100000 in
theorem ops_calls {w : World} {v : Value} {b : List Int} (h : Bys b v w) (hby : Byte b) (hl : b.length ≤ 140737488351232) : Calls Try.prog 18 #[v] w (XPost w b) := by
  have HOP := Aside0.mk (open_calls h hl)
  have HYY := Aside0.mk hby
  clear h hby
  go_enter Try.func18, Try.ntmps18
  go_wp2_with fail
  refine HOP.out.mono ?_
  rintro en w2 ⟨g, rfl, hr, hb, hg⟩
  obtain ⟨N, hN⟩ : ∃ N, w.heap.size = N := ⟨_, rfl⟩
  have HN := Aside0.mk hN
  have HR2 := Aside0.mk hr
  have HB2 := Aside0.mk (show Below N w w2 by rw [← hN]; exact hb)
  have HG := Aside0.mk (show N ≤ g by rw [← hN]; exact hg)
  clear hr hb hg HOP hN
  obtain ⟨B, hB⟩ : ∃ B, w2.heap.size = B := ⟨_, rfl⟩
  have HGB := Aside0.mk (show g < B by rw [← hB]; exact HR2.out.lt)
  have HSB := Aside0.mk (Nat.le_of_eq hB.symm)
  clear hB
  go_wp2_with fail
  refine (num_wide HR2.out HYY.out (n := ((4 : Nat) : Int)) (by decide)).mono ?_
  rintro en w3 ⟨rfl, hr, hk⟩
  have HR3 := Aside0.mk hr
  have HY3 := Aside0.mk (show Byte (rawB b 0 ((4 : Nat) : Int)) from HYY.out.rawB _ _)
  have HS3 := Aside0.mk (Nat.le_trans HSB.out hk.size)
  have HB3 := Aside0.mk (Keeps.below_then HB2.out (by have := HN.out; omega) hk (fun j hj => by have h1 : j = g := hj; have := HG.out; omega))
  have hnn : num (rawO b 0 ((4 : Nat) : Int)) = ((nO b : Nat) : Int) := by
    have h1 := (num4_bd (HYY.out.rawO 0 ((4 : Nat) : Int)) (by have := rawO_le b 0 4; omega)).1
    unfold nO
    omega
  rw [hnn]
  have HOK := Aside0.mk (show ∀ l, okO b l ↔ (nO b ≤ 65536 ∧ rOs (nO b) (rawB b 0 ((4 : Nat) : Int)) (rawE b 0 ((4 : Nat) : Int)) = some (l, [], 0)) from fun l => Iff.rfl)
  clear hr hk HR2 HB2 HSB hnn
  generalize rawB b 0 ((4 : Nat) : Int) = b4 at HR3 HY3 HOK
  generalize rawE b 0 ((4 : Nat) : Int) = e4 at HR3 HOK
  obtain ⟨n, hn⟩ : ∃ n, nO b = n := ⟨_, rfl⟩
  rw [hn] at HOK ⊢
  clear hn
  by_cases hbig : 65536 < n
  · have g1 : decide ((65536 : Int) < ((n : Nat) : Int)) = true := decide_eq_true (by omega)
    have g2 : decide (65536 < n) = true := decide_eq_true hbig
    have HNO := Aside0.mk (show ∀ l, ¬ okO b l from fun l h => by have := ((HOK.out l).1 h).1; omega)
    clear hbig
    go_wp2_with fail
    go_ret2
    exact ⟨fun l h => absurd h (HNO.out l), fun _ => by simp, by rw [HN.out]; exact HB3.out⟩
  · have g1 : decide ((65536 : Int) < ((n : Nat) : Int)) = false := decide_eq_false (by omega)
    have g2 : decide (65536 < n) = false := decide_eq_false hbig
    have HLE := Aside0.mk (show n ≤ 65536 by omega)
    go_wp2_with fail
    go_loopg [6, 16] (n + 1) (fun kq v6 v16 wx => ∃ (i : Nat) (bs : List Int) (e : Int) (acc : List S52), v16 = .int .u64 (i : Int) ∧ Aside0 (kq = n + 1 - i ∧ i ≤ n ∧ acc.length = i) ∧ Aside0 (Rd wx g bs e) ∧ Aside0 (Byte bs) ∧
      Aside0 (rOs n b4 e4 = (rOs (n - i) bs e).map (fun r => (acc ++ r.1, r.2))) ∧ Aside0 (Kd.R k52 52 wx B (fun _ => True) v6 acc) ∧ Aside0 (B ≤ wx.heap.size) ∧ Aside0 (Below N w wx))
    case atStart => exact ⟨0, b4, e4, [], rfl, ⟨rfl, by omega, by simp⟩, HR3, HY3, ⟨by simp⟩, ⟨Kd.R_nil _ _ _ _ _⟩, HS3, HB3⟩
    case round =>
      clear HR3 HY3 HS3 HB3
      obtain ⟨i, bs, e, acc, rfl, HI, HR, HY, HQ, HV, HSZ, HB⟩ := hrel
      by_cases hi : i < n
      · have g3 : decide ((i : Int) < ((n : Nat) : Int)) = true := decide_eq_true (by omega)
        go_wp2_with fail
        refine (rop_calls HR.out HY.out).mono ?_
        rintro en w5 ⟨rfl, hr, hk⟩
        have HST := Aside0.mk (show rOs (n - i) bs e = _ from by rw [show n - i = (n - (i + 1)) + 1 by omega, rOs])
        have HY5 := Aside0.mk (rdOp_byte (e := e) HY.out)
        obtain ⟨⟨o, b', e', ok⟩, hrr⟩ : ∃ r, rdOp bs e = r := ⟨_, rfl⟩
        rw [hrr] at hr HST HY5 ⊢
        simp only at hr HST HY5 ⊢
        obtain ⟨o0, o1, o2, o3⟩ := o
        unfold oV
        simp only
        have HR5 := Aside0.mk hr
        have HV5 := Aside0.mk (R_keeps52 HV.out hk HGB.out)
        have HS5 := Aside0.mk (Nat.le_trans HSZ.out hk.size)
        have HB5 := Aside0.mk (Keeps.below_then HB.out (by have := HN.out; omega) hk (fun j hj => by have h1 : j = g := hj; have := HG.out; omega))
        clear hr hk hrr HR HV HSZ HB HY
        cases ok
        · have HNO := Aside0.mk (show ∀ l, ¬ okO b l from fun l h => by
            have h1 := ((HOK.out l).1 h).2
            rw [HQ.out, HST.out, if_neg (by simp)] at h1
            simp at h1)
          go_wp2_with fail
          go_ret2
          exact ⟨fun l h => absurd h (HNO.out l), fun _ => by simp, by rw [HN.out]; exact below_trans HB5.out (below_less (below_alloc (Below.refl w5.heap.size w5) _) (Nat.le_trans (by rw [← HN.out]; exact Nat.le_refl _) HB5.out.size))⟩
        · have HQ5 := Aside0.mk (show rOs n b4 e4 = (rOs (n - (i + 1)) b' e').map (fun r => ((acc ++ [⟨o0, o1, o2, o3⟩]) ++ r.1, r.2)) from by
            rw [HQ.out, HST.out, if_pos rfl, Option.map_map]
            congr 1
            funext r
            simp)
          clear HQ HST
          have hli : acc.length ≤ 65536 := by have := HI.out; have := HLE.out; omega
          go_upto_region 9 with fail
          have hba := below_alloc (Below.refl w5.heap.size w5) (.cells #[.int .i64 o0, .string o1, .string o2, .int .i64 o3] 52)
          have HT6 := Aside0.mk (blk_new w5 (.cells #[.int .i64 o0, .string o1, .string o2, .int .i64 o3] 52))
          have HR6 := Aside0.mk (HR5.out.below hba)
          have HV6 := Aside0.mk (Kd.R_below HV5.out hba)
          have HS6 := Aside0.mk (Nat.le_trans HS5.out hba.size)
          have HB6 := Aside0.mk (below_trans HB5.out (below_less hba (Nat.le_trans (by rw [← HN.out]; exact Nat.le_refl _) HB5.out.size)))
          clear hba HR5 HV5 HS5 HB5
          generalize w5.alloc (.cells #[.int .i64 o0, .string o1, .string o2, .int .i64 o3] 52) = w6 at HT6 HR6 HV6 HS6 HB6 ⊢
          generalize w5.heap.size = T at HT6 ⊢
          have t0 := (blk_cell HT6.out 0).trans rfl
          have t1 := (blk_cell HT6.out 1).trans rfl
          have t2 := (blk_cell HT6.out 2).trans rfl
          have t3 := (blk_cell HT6.out 3).trans rfl
          go_wp2_with (first | (at_builtin; refine Kd.R_append k52 (w0 := w6) B rfl (.tmp 25) (.tmp 27) 42 52 (.agg #[.int .i64 0, .string ⟨#[]⟩, .string ⟨#[]⟩, .int .i64 0]) 48 rfl Try.underlying42 info_op rfl (by decide) (by decide) u6 acc ⟨o0, o1, o2, o3⟩ [.int .i64 o0, .string o1, .string o2, .int .i64 o3] (fun _ => True) (fun _ => False) rfl rfl ?aP (fun _ hk => hk.elim) ?aF ?aO ?aB ?aS ?aL ?_; (case aP => exact k52_mkM _ _ _ _); (case aB => exact Below.refl _ _); (case aF => exact (fun _ _ => trivial)); (case aO => exact HV6.out); (case aS => exact HS6.out); (case aL => omega); intro v12 w9 ho hb hg hat; have HV9 := Aside0.mk ho; have HR9 := Aside0.mk (Rd.high HR6.out hb HGB.out); have HS9 := Aside0.mk (Nat.le_trans HS6.out hb.size); have HB9 := Aside0.mk (below_trans HB6.out (below_less hb (by have := HG.out; have := HGB.out; omega))); clear ho hb hg hat))
          go_wp2_with fail
          go_roundg (n - i)
          case measure => have := HI.out; omega
          case rel => exact ⟨i + 1, b', e', acc ++ [⟨o0, o1, o2, o3⟩], by simp, ⟨by omega, by omega, by rw [List.length_append, List.length_singleton]; have := HI.out; omega⟩, HR9, HY5, HQ5, HV9, HS9, HB9⟩
      · have g3 : decide ((i : Int) < ((n : Nat) : Int)) = false := decide_eq_false (by omega)
        obtain rfl : i = n := by have := HI.out; omega
        have hq := HQ.out
        rw [Nat.sub_self] at hq
        simp only [rOs, Option.map_some, List.append_nil] at hq
        go_wp2_with fail
        refine (end_calls HR.out).mono ?_
        rintro en w8 ⟨rfl, rfl⟩
        by_cases hok : e = 0 ∧ bs = []
        · obtain ⟨rfl, rfl⟩ := hok
          have HOKK := Aside0.mk (show okO b acc from (HOK.out acc).2 ⟨HLE.out, hq⟩)
          have HUN := Aside0.mk (show ∀ l, okO b l → l = acc from fun l h => by have h1 := ((HOK.out l).1 h).2; rw [hq] at h1; simp at h1; exact h1.symm)
          rw [if_pos rfl, if_pos rfl]
          obtain ⟨A8, c8, rfl, _, _⟩ := Kd.R_reads HV.out
          go_wp2_with fail
          go_ret2
          exact ⟨fun l h => by rw [HUN.out l h]; exact ⟨_, by simp, Kd.R_lower HV.out (by have := HN.out; have := HG.out; have := HGB.out; omega)⟩, fun h => absurd HOKK.out (h acc), by rw [HN.out]; exact HB.out⟩
        · have HNO := Aside0.mk (show ∀ l, ¬ okO b l from fun l h => by
            have h2 := ((HOK.out l).1 h).2
            rw [hq] at h2
            simp at h2
            exact hok ⟨h2.2.2, h2.2.1⟩)
          have hee : ∃ ee : Int, (if e = 0 then (if bs = [] then (0 : Int) else 6) else e) = ee ∧ (ee == 0) = false := by
            refine ⟨_, rfl, ?_⟩
            by_cases he : e = 0
            · rw [if_pos he, if_neg (fun h => hok ⟨he, h⟩)]; rfl
            · rw [if_neg he]; simp [he]
          obtain ⟨ee, hee, hne⟩ := hee
          rw [hee]
          clear hok hee
          go_wp2_with fail
          go_ret2
          exact ⟨fun l h => absurd h (HNO.out l), fun _ => by simp, by rw [HN.out]; exact HB.out⟩
end Go.Proofs.Ytfpdapdnmkadeaa.Wire
