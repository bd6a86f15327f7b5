/- A text of a key, read. -/
import Derived.Test.YtdekhhimjnockaaDoorTuKey
import Derived.RegionTactic
import Derived.Deep.RegionWith
namespace Go.Proofs.YtdekhhimjnockaaDoor.Tu
open Go.RowKit Go.Proofs.YtdekhhimjnockaaDoorW.PrintWords Go.Proofs.YtdekhhimjnockaaDoorW.PrintLast Go.Proofs.YtdekhhimjnockaaDoorW.PrintMore
open Go.Proofs.YtdekhhimjnockaaDoor Go.Proofs.YtdekhhimjnockaaDoor.Vals Go.Proofs.YtdekhhimjnockaaDoor.Word Go.Proofs.YtdekhhimjnockaaDoor.Q
set_option linter.unusedVariables false
set_option linter.unusedSimpArgs false

def textU : List UInt8 → List UInt8 → Option (List UInt8 × List UInt8)
  | a, c :: d :: r => if c = 0 then (if d = 1 then some (a, r) else if d = 255 then textU (a ++ [0]) r else none) else textU (a ++ [c]) (d :: r)
  | _, _ => none
  termination_by _ l => l.length
def textV : Option (List UInt8 × List UInt8) → Value
  | some (a, r) => .tuple #[.string ⟨a.toArray⟩, .string ⟨r.toArray⟩, .bool true]
  | none => .tuple #[.string ⟨#[]⟩, .string ⟨#[]⟩, .bool false]
theorem bt_is {s : ByteArray} {i : Nat} (h : i < s.size) (h2 : i < s.data.toList.length) : bt s (i : Int) = ((s.data.toList[i]'h2).toNat : Int) := by
  unfold bt
  rw [Int.toNat_natCast, dif_pos h]
  rfl
theorem ext_drop (s : ByteArray) (n : Nat) : s.extract n s.size = ⟨(s.data.toList.drop n).toArray⟩ := by
  apply ByteArray.ext
  apply Array.toList_inj.1
  rw [Lib.extract_to_end]
def TextPost (w : World) (s : ByteArray) (e : Ending) (w' : World) : Prop := e = .returned (textV (textU [] s.data.toList)) ∧ Below w.heap.size w w'
set_option maxHeartbeats 8000000 in
set_option maxRecDepth 100000 in
theorem text_calls (s : ByteArray) (hs : s.size ≤ 100000) (w : World) : Calls Tryd.prog 26 #[.string s] w (TextPost w s) := by
  have HS := Aside0.mk hs
  have hsi : (s.size : Int) ≤ 100000 := by omega
  have HB0 := Aside0.mk (Lib.fresh_isBuilder 75 5 w)
  have HW0 := Aside0.mk (below_alloc (Below.refl w.heap.size w) (.cells #[.pointer none, .slice none 0 0] 75))
  obtain ⟨b, hb⟩ : ∃ b, w.heap.size = b := ⟨_, rfl⟩
  clear hs
  go_enter Tryd.func26, Tryd.ntmps26
  go_wp2_with fail
  rw [hb] at HB0
  have HBE := Aside0.mk hb
  clear hb
  generalize w.alloc (.cells #[.pointer none, .slice none 0 0] 75) = w1 at HB0 HW0 ⊢
  obtain ⟨R, hR⟩ : ∃ R, textU [] s.data.toList = R := ⟨_, rfl⟩
  have HRR := Aside0.mk hR
  clear hR
  go_loopg [6] s.size (fun kq v6 wx => ∃ (i : Nat) (a : List UInt8), v6 = .int .i64 (i : Int) ∧ Aside0 (kq = s.size - i ∧ i ≤ s.size + 1 ∧ a.length ≤ i) ∧ Aside0 (Lib.IsBuilder 75 5 b b (Lib.byteCells a) wx) ∧ Aside0 (Below w.heap.size w wx) ∧ Aside0 (textU a (s.data.toList.drop i) = R))
  case atStart => exact ⟨0, [], rfl, ⟨rfl, Nat.zero_le _, Nat.le_refl _⟩, HB0, HW0, HRR⟩
  case round =>
    clear HB0 HW0
    obtain ⟨i, a, rfl, HI, HBD, HW, HU⟩ := hrel
    have hib := HI.out.2.1
    have hsl : s.data.toList.length = s.size := data_length s
    by_cases h1 : i + 1 < s.size
    · have t1 : decide ((i : Int) + 1 < (s.size : Int)) = true := decide_eq_true (by omega)
      have t2 : decide (i + 1 < s.size) = true := decide_eq_true h1
      have p1 : (0 : Int) ≤ (i : Int) := by omega
      have q1 : (i : Int) < (s.size : Int) := by omega
      have p2 : (0 : Int) ≤ (i : Int) + 1 := by omega
      have q2 : (i : Int) + 1 < (s.size : Int) := by omega
      obtain ⟨c, hc⟩ : ∃ c, s.data.toList[i]'(by omega) = c := ⟨_, rfl⟩
      obtain ⟨d, hd⟩ : ∃ d, s.data.toList[i + 1]'(by omega) = d := ⟨_, rfl⟩
      have x1 : s[i]'(by omega) = c := hc
      have x2 : s[i + 1]'h1 = d := hd
      have HDR := Aside0.mk (show s.data.toList.drop i = c :: d :: s.data.toList.drop (i + 2) from by rw [List.drop_eq_getElem_cons (by omega), List.drop_eq_getElem_cons (by omega), hc, hd])
      have HU2 := Aside0.mk (show (if c = 0 then (if d = 1 then some (a, s.data.toList.drop (i + 2)) else if d = 255 then textU (a ++ [0]) (s.data.toList.drop (i + 2)) else none) else textU (a ++ [c]) (d :: s.data.toList.drop (i + 2))) = R from by rw [← HU.out, HDR.out, textU])
      have HH1 := Aside0.mk h1
      have HWB := Aside0.mk (show b ≤ wr.heap.size from by rw [← HBE.out]; exact HW.out.size)
      have HAL := Aside0.mk (show (Lib.byteCells a).length + 1 ≤ 140737488355328 from by rw [Lib.byteCells_length]; have := HI.out; have := HS.out; omega)
      clear hc hd HU
      by_cases hc0 : c = 0
      · subst hc0
        have HU3 := Aside0.mk ((if_pos rfl).symm.trans HU2.out)
        clear HU2
        by_cases hd1 : d = 1
        · subst hd1
          have HU4 := Aside0.mk ((if_pos rfl).symm.trans HU3.out)
          clear HU3
          go_wp2_with fail
          have p3 : (0 : Int) ≤ (i : Int) + 2 := by omega
          have q3 : (i : Int) + 2 ≤ (s.size : Int) := by have := HH1.out; omega
          have w3 : IntKind.i64.wrap ((i : Int) + 2) = (i : Int) + 2 := IntWalk.i64_in _ (by omega)
          have w4 : ((i : Int) + 2).toNat = i + 2 := by omega
          have HWD := Aside0.mk (show b ≤ wr.drew.heap.size from HWB.out)
          have HBDD := Aside0.mk (show Lib.IsBuilder 75 5 b b (Lib.byteCells a) wr.drew from HBD.out)
          go_region_with (go_at_call 39; refine (Sh.Tryd.Builder_String_any b b a _ HBDD.out HWD.out).mono ?_; rintro en w2 ⟨rfl, hb2⟩)
          all_goals
            go_wp2_with fail
            rw [ext_drop s (i + 2)]
            exact bodyPost_ret (v := textV (some (a, s.data.toList.drop (i + 2)))) (by simp [results, Tryd.results26, go_sem, Act.put, textV]) rfl ⟨by rw [HRR.out, ← HU4.out], by have h := HW.out; rw [HBE.out] at h ⊢; exact (show Below b w wr.drew from h.trans (by first | exact (pw_below_drewN (Below.refl b wr) 1) | exact h.trans h)).trans hb2⟩
        · by_cases hd2 : d = 255
          · subst hd2
            have HU4 := Aside0.mk ((if_pos rfl).symm.trans ((if_neg (by decide)).symm.trans HU3.out))
            clear HU3 hd1
            go_wp2_with fail
            refine (Sh.Tryd.Builder_WriteByte b b (Lib.byteCells a) 0 wr HBD.out HAL.out HWB.out).mono ?_
            rintro en w2 ⟨rfl, hbd, hbw⟩
            have HBD2 := Aside0.mk (show Lib.IsBuilder 75 5 b b (Lib.byteCells (a ++ [0])) w2 from Or.inr (by rw [Lib.byteCells_append]; exact hbd))
            have HW2 := Aside0.mk (show Below w.heap.size w w2 from by have h := HW.out; rw [HBE.out] at h ⊢; exact h.trans hbw)
            clear hbd hbw HBD HW
            go_wp2_with fail
            go_roundg (s.size - (i + 2))
            case measure => have := HI.out; have := HH1.out; omega
            case rel => exact ⟨i + 2, a ++ [0], by go_num, ⟨rfl, by have := HH1.out; omega, by have := HI.out; rw [List.length_append, List.length_singleton]; omega⟩, HBD2, HW2, HU4⟩
          · have HU4 := Aside0.mk ((if_neg hd2).symm.trans ((if_neg hd1).symm.trans HU3.out))
            have n1 : ((d.toNat : Int) == 1) = false := by simpa using fun h => hd1 (UInt8.toNat_inj.1 (by have : (1 : UInt8).toNat = 1 := rfl; omega))
            have n2 : ((d.toNat : Int) == 255) = false := by simpa using fun h => hd2 (UInt8.toNat_inj.1 (by have : (255 : UInt8).toNat = 255 := rfl; omega))
            clear HU3 hd1 hd2
            go_wp2_with fail
            exact bodyPost_ret (v := textV none) (by simp [results, Tryd.results26, go_sem]; rfl) rfl ⟨by rw [HRR.out, ← HU4.out], HW.out⟩
      · have HU3 := Aside0.mk ((if_neg hc0).symm.trans HU2.out)
        have n1 : ((c.toNat : Int) != 0) = true := by simpa using fun h => hc0 (UInt8.toNat_inj.1 (by have : (0 : UInt8).toNat = 0 := rfl; omega))
        clear HU2 hc0
        go_wp2_with fail
        refine (Sh.Tryd.Builder_WriteByte b b (Lib.byteCells a) (c.toNat : Int) wr HBD.out HAL.out HWB.out).mono ?_
        rintro en w2 ⟨rfl, hbd, hbw⟩
        have HBD2 := Aside0.mk (show Lib.IsBuilder 75 5 b b (Lib.byteCells (a ++ [c])) w2 from Or.inr (by rw [Lib.byteCells_append]; exact hbd))
        have HW2 := Aside0.mk (show Below w.heap.size w w2 from by have h := HW.out; rw [HBE.out] at h ⊢; exact h.trans hbw)
        clear hbd hbw HBD HW
        go_wp2_with fail
        go_roundg (s.size - (i + 1))
        case measure => have := HI.out; have := HH1.out; omega
        case rel => exact ⟨i + 1, a ++ [c], by go_num, ⟨rfl, by have := HH1.out; omega, by have := HI.out; rw [List.length_append, List.length_singleton]; omega⟩, HBD2, HW2, ⟨by rw [show s.data.toList.drop (i + 1) = d :: s.data.toList.drop (i + 2) from by have h := congrArg (List.drop 1) HDR.out; rw [List.drop_drop] at h; exact h]; exact HU3.out⟩⟩
    · have t1 : decide ((i : Int) + 1 < (s.size : Int)) = false := decide_eq_false (by omega)
      have t2 : decide (i + 1 < s.size) = false := decide_eq_false h1
      have HU2 := Aside0.mk (show R = none from by
        rw [← HU.out]
        rcases Nat.lt_or_ge i s.size with h | h
        · rw [List.drop_eq_getElem_cons (by omega), List.drop_eq_nil_of_le (by omega)]
          simp [textU]
        · rw [List.drop_eq_nil_of_le (by omega)]
          simp [textU])
      clear h1 HU
      go_wp2_with fail
      exact bodyPost_ret (v := textV none) (by simp [results, Tryd.results26, go_sem]; rfl) rfl ⟨by rw [HRR.out, HU2.out], HW.out⟩
end Go.Proofs.YtdekhhimjnockaaDoor.Tu
