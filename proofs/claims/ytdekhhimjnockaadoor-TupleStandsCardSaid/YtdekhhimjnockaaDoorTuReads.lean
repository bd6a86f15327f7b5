/- Which texts are a tuple's key: the law. -/
import Derived.Test.YtdekhhimjnockaaDoorTuAwake
namespace Go.Proofs.YtdekhhimjnockaaDoor.Tu
open Go.RowKit Go.Proofs.YtdekhhimjnockaaDoorW.PrintWords Go.Proofs.YtdekhhimjnockaaDoorW.PrintLast Go.Proofs.YtdekhhimjnockaaDoorW.PrintMore
open Go.Proofs.YtdekhhimjnockaaDoor Go.Proofs.YtdekhhimjnockaaDoor.Vals Go.Proofs.YtdekhhimjnockaaDoor.Word Go.Proofs.YtdekhhimjnockaaDoor.Q Go.Proofs.YtdekhhimjnockaaDoor.S
set_option linter.unusedVariables false
set_option linter.unusedSimpArgs false

theorem readU_length {s : ByteArray} {l : List S45} (h : readU s = some l) (hs : s.size ≤ 100000) : l.length ≤ s.size := by
  obtain ⟨h1, h2, h3⟩ := readU_back h hs
  rw [h1, strOfNums_size]
  clear h h1 hs h2 h3
  induction l with
  | nil => exact Nat.zero_le _
  | cons p l ih =>
    have e : enc (p :: l) = encP p ++ enc l := rfl
    rw [e, List.length_append, List.length_cons]
    have : 1 ≤ (encP p).length := by unfold encP; split <;> simp
    omega
theorem as_calls {w : World} {A : Option Addr} {c : Nat} {l : List S45} (h : k45.C w A l.length l) (hc : l.length ≤ c) (hl : l.length ≤ 100000) {m : List S59} (hm : l.map to59 = m) : Calls Tryd.prog 12 #[.slice A l.length c] w fun e w' => ∃ A1 c1, e = .returned (.slice A1 m.length c1) ∧ k59.C w' A1 m.length m ∧ m.length ≤ c1 ∧ Below w.heap.size w w' := by
  subst hm
  obtain ⟨k, hk⟩ := (as_ev l hl).rounds
  refine (sluicegatelaw37_As.calls k A c l _ w h hc hk).mono ?_
  rintro e w' ⟨v, rfl, hr, hb⟩
  obtain ⟨A1, c1, rfl, h1, h2⟩ := Kd.R_reads hr
  exact ⟨A1, c1, rfl, h2, h1, hb⟩
theorem rsame_calls {w : World} {A B : Option Addr} {c d : Nat} {l m : List S59} (h : k59.C w A l.length l) (hc : l.length ≤ c) (h2 : k59.C w B m.length m) (hd : m.length ≤ d) (hl : l.length ≤ 100000) : Calls Tryd.prog 11 #[.slice A l.length c, .slice B m.length d] w fun e w' => ∃ b, e = .returned (.bool b) ∧ (b = true ↔ l = m) ∧ Below w.heap.size w w' := by
  obtain ⟨b, hb, hi⟩ := same_ev l m hl
  obtain ⟨k, hk⟩ := hb.rounds
  refine (sluicegateref37_Same.calls k A c l B d m b w h hc h2 hd hk).mono ?_
  rintro e w' ⟨rfl, hb⟩
  exact ⟨b, rfl, hi, hb.below⟩
theorem rread_some {w : World} {key : ByteArray} (hk : key.size ≤ 100000) {l : List S45} (h : readU key = some l) {m : List S59} (hm : l.map to59 = m) : Calls Tryd.prog 9 #[.string key] w fun e w' => ∃ A c, e = .returned (.tuple #[.slice A m.length c, .bool true]) ∧ k59.C w' A m.length m ∧ m.length ≤ c ∧ Below w.heap.size w w' := by
  subst hm
  obtain ⟨k, hk⟩ := (ref_read_some hk h).rounds
  refine (sluicegateref37_Read.calls k key _ _ w hk).mono ?_
  rintro e w' ⟨v, rfl, hr, hb⟩
  obtain ⟨A1, c1, rfl, h1, h2⟩ := Kd.R_reads hr
  exact ⟨A1, c1, rfl, h2, h1, hb⟩
theorem rread_none {w : World} {key : ByteArray} (hk : key.size ≤ 100000) (h : readU key = none) : Calls Tryd.prog 9 #[.string key] w fun e w' => ∃ v, e = .returned (.tuple #[v, .bool false]) ∧ Below w.heap.size w w' := by
  obtain ⟨m, hm⟩ := ref_read_none hk h
  obtain ⟨k, hk⟩ := hm.rounds
  refine (sluicegateref37_Read.calls k key _ _ w hk).mono ?_
  rintro e w' ⟨v, rfl, hr, hb⟩
  exact ⟨v, rfl, hb⟩
set_option maxHeartbeats 8000000 in
set_option maxRecDepth 100000 in
theorem reads_law (s : ByteArray) {w : World} (hm : MaxL w) : Calls Tryd.prog 3 #[.string s] w (fun e w' => e = .returned (.bool true) ∧ Below w.heap.size w w') := by
  have HM := Aside0.mk hm
  clear hm
  by_cases hs : s.size ≤ 2000
  · have t1 : decide ((2000 : Int) < (s.size : Int)) = false := decide_eq_false (by omega)
    have t2 : decide (2000 < s.size) = false := decide_eq_false (by omega)
    have HS := Aside0.mk hs
    clear hs
    go_enter Tryd.func3, Tryd.ntmps3
    go_wp2_with fail
    refine (read_calls s (by have := HS.out; omega) w).mono ?_
    rintro en w1 ⟨v, rfl, hR, hb⟩
    have HW1 := Aside0.mk hb
    clear hb
    cases hx : readU s with
    | none =>
      rw [hx] at hR
      obtain ⟨A1, c1, rfl, _, _⟩ := Kd.R_reads hR
      have HC := Aside0.mk (rread_none (w := w1) (by have := HS.out; omega) hx)
      clear hR hx
      go_wp2_with fail
      refine HC.out.mono ?_
      rintro en w2 ⟨v, rfl, hb⟩
      have HW2 := Aside0.mk (below_step HW1.out hb)
      clear hb HC HW1
      go_wp2_with fail
      refine (awake_calls (HM.out.below HW2.out)).mono ?_
      rintro en w3 ⟨rfl, hb⟩
      have HW3 := Aside0.mk (below_step HW2.out hb)
      clear hb HW2
      go_wp2_with fail
      go_ret
      exact ⟨rfl, HW3.out⟩
    | some l =>
      rw [hx] at hR
      obtain ⟨A1, c1, rfl, hc1, hC1⟩ := Kd.R_reads hR
      obtain ⟨hb1, hb2, hb3⟩ := readU_back hx (by have := HS.out; omega)
      have HLN := Aside0.mk (show l.length ≤ 2000 from Nat.le_trans (readU_length hx (by have := HS.out; omega)) HS.out)
      obtain ⟨m, hm⟩ : ∃ m, l.map to59 = m := ⟨_, rfl⟩
      have HMM := Aside0.mk hm
      have HML := Aside0.mk (show m.length = l.length from by rw [← hm, List.length_map])
      have HC := Aside0.mk (rread_some (w := w1) (by have := HS.out; omega) hx hm)
      have HKE := Aside0.mk (show strOfNums (enc l) = s from hb1.symm)
      have HMP := Aside0.mk hb2
      have HOK := Aside0.mk hb3
      have HC1 := Aside0.mk (show k45.C w1 A1 l.length l from hC1)
      have HCC := Aside0.mk (show l.length ≤ c1 from hc1)
      clear hR hx hc1 hC1 hb1 hb2 hb3 hm
      go_wp2_with fail
      refine HC.out.mono ?_
      rintro en w2 ⟨A2, c2, rfl, hC2, hc2, hb⟩
      have HW2 := Aside0.mk (below_step HW1.out hb)
      have HC2 := Aside0.mk (Kd.C_below HC1.out hb)
      have HD2 := Aside0.mk hC2
      have HDC := Aside0.mk hc2
      clear hb HC HW1 HC1 hC2 hc2
      go_wp2_with fail
      refine (key_calls HC2.out HOK.out (by have := HLN.out; omega) (HM.out.below HW2.out)).mono ?_
      rintro en w3 ⟨rfl, hb⟩
      rw [key_some HMP.out, HKE.out]
      have HW3 := Aside0.mk (below_step HW2.out hb)
      have HC3 := Aside0.mk (Kd.C_below HC2.out hb)
      have HD3 := Aside0.mk (Kd.C_below HD2.out hb)
      clear hb HW2 HC2 HD2
      go_wp2_with fail
      refine (as_calls HC3.out HCC.out (by have := HLN.out; omega) HMM.out).mono ?_
      rintro en w4 ⟨A4, c4, rfl, hC4, hc4, hb⟩
      have HW4 := Aside0.mk (below_step HW3.out hb)
      have HC4 := Aside0.mk hC4
      have HCC4 := Aside0.mk hc4
      have HD4 := Aside0.mk (Kd.C_below HD3.out hb)
      clear hb HW3 HC3 HD3 hC4 hc4
      go_wp2_with fail
      refine (rsame_calls HC4.out HCC4.out HD4.out HDC.out (by have := HLN.out; have := HML.out; omega)).mono ?_
      rintro en w5 ⟨b, rfl, hbi, hb⟩
      obtain rfl : b = true := hbi.2 rfl
      have HW5 := Aside0.mk (below_step HW4.out hb)
      clear hb HW4 HC4 HD4 hbi
      go_wp2_with fail
      refine (awake_calls (HM.out.below HW5.out)).mono ?_
      rintro en w6 ⟨rfl, hb⟩
      have HW6 := Aside0.mk (below_step HW5.out hb)
      clear hb HW5
      go_wp2_with fail
      go_ret
      exact ⟨rfl, HW6.out⟩
  · have t1 : decide ((2000 : Int) < (s.size : Int)) = true := decide_eq_true (by omega)
    have t2 : decide (2000 < s.size) = true := decide_eq_true (by omega)
    clear hs
    go_enter Tryd.func3, Tryd.ntmps3
    go_wp2_with fail
    refine (awake_calls HM.out).mono ?_
    rintro en w1 ⟨rfl, hb⟩
    have HW1 := Aside0.mk hb
    clear hb
    go_wp2_with fail
    go_ret
    exact ⟨rfl, HW1.out⟩
end Go.Proofs.YtdekhhimjnockaaDoor.Tu
