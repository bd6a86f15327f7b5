/- WordStands: what the law's call comes to. -/
import Derived.Test.YtceaddpbebaldaaWordFits
import Derived.Test.YtceaddpbebaldaaReg
import Derived.Test.YtceaddpbebaldaaWordStr
namespace Go.Proofs.Ytceaddpbebaldaa.Word
open Go.RowKit Go.Proofs.YtceaddpbebaldaaW.PrintWords Go.Proofs.YtceaddpbebaldaaW.PrintLast Go.Proofs.YtceaddpbebaldaaW.PrintMore
open Go.Proofs.Ytceaddpbebaldaa Go.Proofs.Ytceaddpbebaldaa.Vals
set_option linter.unusedVariables false
set_option linter.unusedSimpArgs false

def wd (c : Int) : Nat := if c % 4 = 0 then 1 else if c % 4 = 1 then 2 else if c % 4 = 2 then 4 else 8
theorem wd_wide (c : Int) : wide (wd c : Int) := by
  unfold wd wide
  repeat' split
  all_goals simp

theorem wi0 (W : World) : (Instr.index 30 (.agg #[.int .i64 1, .int .i64 2, .int .i64 4, .int .i64 8]) (.int .u8 0)).run Try.prog W = .ok (.int .i64 1) W := by kernel_rfl
theorem wi1 (W : World) : (Instr.index 30 (.agg #[.int .i64 1, .int .i64 2, .int .i64 4, .int .i64 8]) (.int .u8 1)).run Try.prog W = .ok (.int .i64 2) W := by kernel_rfl
theorem wi2 (W : World) : (Instr.index 30 (.agg #[.int .i64 1, .int .i64 2, .int .i64 4, .int .i64 8]) (.int .u8 2)).run Try.prog W = .ok (.int .i64 4) W := by kernel_rfl
theorem wi3 (W : World) : (Instr.index 30 (.agg #[.int .i64 1, .int .i64 2, .int .i64 4, .int .i64 8]) (.int .u8 3)).run Try.prog W = .ok (.int .i64 8) W := by kernel_rfl
theorem wd_index (c : Int) (hc : 0 ≤ c) (W : World) : (Instr.index 30 (.agg #[.int .i64 1, .int .i64 2, .int .i64 4, .int .i64 8]) (.int .u8 (c % 4))).run Try.prog W = .ok (.int .i64 (wd c : Int)) W := by
  have hr : c % 4 = 0 ∨ c % 4 = 1 ∨ c % 4 = 2 ∨ c % 4 = 3 := by omega
  rcases hr with h | h | h | h
  · rw [show wd c = 1 from by simp [wd, h], h]; exact wi0 W
  · rw [show wd c = 2 from by simp [wd, h], h]; exact wi1 W
  · rw [show wd c = 4 from by simp [wd, h], h]; exact wi2 W
  · rw [show wd c = 8 from by simp [wd, h], h]; exact wi3 W

theorem stands_unfit (a b c : Int) (ha : 0 ≤ a) (ha2 : a < 18446744073709551616) (hb : 0 ≤ b) (hb2 : b < 18446744073709551616) (hc : 0 ≤ c) (hc2 : c ≤ 255) (hf : ¬ (fits (wd c) a ∧ fits (wd c) b)) (w : World) :
    Calls Try.prog 4 #[.int .u64 a, .int .u64 b, .int .u8 c] w fun e w' => e = .returned (.bool true) ∧ Below w.heap.size w w' := by
  have hx := wd_index c hc
  generalize wd c = n at hx hf
  have hfa := fits_calls n a ha ha2 w
  have hfb := fits_calls n b hb hb2 w
  have HAW := Aside0.mk (awake_calls w)
  by_cases h1 : fits n a
  · have h2 : ¬ fits n b := fun h => hf ⟨h1, h⟩
    rw [decide_eq_true h1] at hfa
    rw [decide_eq_false h2] at hfb
    have HA := Aside0.mk hfa
    have HB := Aside0.mk hfb
    clear hfa hfb h1 h2 hf
    go_enter Try.func4, Try.ntmps4
    go_wp2_with fail
    refine HA.out.mono ?_
    rintro en w' ⟨rfl, rfl⟩
    go_wp2_with fail
    refine HB.out.mono ?_
    rintro en w' ⟨rfl, rfl⟩
    go_wp2_with fail
    refine HAW.out.mono ?_
    rintro en w1 ⟨rfl, hb⟩
    have HBL := Aside0.mk hb
    clear hb
    go_wp2_with fail
    go_ret
    exact ⟨by simp, HBL.out⟩
  · rw [decide_eq_false h1] at hfa
    have HA := Aside0.mk hfa
    clear hfa hfb h1 hf
    go_enter Try.func4, Try.ntmps4
    go_wp2_with fail
    refine HA.out.mono ?_
    rintro en w' ⟨rfl, rfl⟩
    go_wp2_with fail
    refine HAW.out.mono ?_
    rintro en w1 ⟨rfl, hb⟩
    have HBL := Aside0.mk hb
    clear hb
    go_wp2_with fail
    go_ret
    exact ⟨by simp, HBL.out⟩

theorem put_nil {w : World} {n : Nat} {x : Int} (hn : wide n) (hx : 0 ≤ x) (hx2 : x < 18446744073709551616) : Calls Try.prog 9 #[.slice none 0 0, .int .i64 (n : Int), .int .u64 x] w fun e w' => ∃ v', e = .returned v' ∧ Bys (be n x) v' w' ∧ Below w.heap.size w w' := by
  refine (put_wide (w := w) (v := .slice none 0 0) (bs := []) (n := n) (x := x) (IsL.nil _ _) (by simp) hn hx hx2).mono ?_
  rintro e w' ⟨v, rfl, hR, hb⟩
  rw [List.nil_append] at hR
  obtain ⟨A, c, rfl, hc, hC⟩ := Kd.R_reads hR
  exact ⟨_, rfl, ⟨A, c, rfl, hc, hC⟩, hb⟩

theorem stands_fit (x y c : Int) (ha : 0 ≤ x) (ha2 : x < 18446744073709551616) (hb : 0 ≤ y) (hb2 : y < 18446744073709551616) (hc : 0 ≤ c) (hc2 : c ≤ 255) (h1 : fits (wd c) x) (h2 : fits (wd c) y) (w0 : World) :
    Calls Try.prog 4 #[.int .u64 x, .int .u64 y, .int .u8 c] w0 fun e w' => e = .returned (.bool true) ∧ Below w0.heap.size w0 w' := by
  have hx := wd_index c hc
  have hwide := wd_wide c
  generalize wd c = n at hx hwide h1 h2
  have hfa := fits_calls n x ha ha2 w0
  have hfb := fits_calls n y hb hb2 w0
  rw [decide_eq_true h1] at hfa
  rw [decide_eq_true h2] at hfb
  have HA := Aside0.mk hfa
  have HB := Aside0.mk hfb
  clear hfa hfb
  have q1 : Op.bytesLess (strOfNums (be n x)).toList (strOfNums (be n y)).toList = decide (x < y) := by
    obtain ⟨X, rfl⟩ := Int.eq_ofNat_of_zero_le ha
    obtain ⟨Y, rfl⟩ := Int.eq_ofNat_of_zero_le hb
    have e1 := h1.2
    have e2 := h2.2
    rw [Int.toNat_natCast] at e1 e2
    have p1 : X < 2 ^ (8 * n) := by
      have : ((X : Nat) : Int) < ((2 ^ (8 * n) : Nat) : Int) := by rw [Int.natCast_pow]; exact e1
      exact Int.ofNat_lt.1 this
    have p2 : Y < 2 ^ (8 * n) := by
      have : ((Y : Nat) : Int) < ((2 ^ (8 * n) : Nat) : Int) := by rw [Int.natCast_pow]; exact e2
      exact Int.ofNat_lt.1 this
    rw [be_str, be_str, less_map (beN_lt _ _) (beN_lt _ _), Bool.eq_iff_iff, decide_eq_true_iff, decide_eq_true_iff, beN_lex, Nat.mod_eq_of_lt p1, Nat.mod_eq_of_lt p2, Int.ofNat_lt]
  have q2 : ((strOfNums (be n x)).toList == (strOfNums (be n y)).toList) = (x == y) := by
    obtain ⟨X, rfl⟩ := Int.eq_ofNat_of_zero_le ha
    obtain ⟨Y, rfl⟩ := Int.eq_ofNat_of_zero_le hb
    have e1 := h1.2
    have e2 := h2.2
    rw [Int.toNat_natCast] at e1 e2
    have p1 : X < 2 ^ (8 * n) := by
      have : ((X : Nat) : Int) < ((2 ^ (8 * n) : Nat) : Int) := by rw [Int.natCast_pow]; exact e1
      exact Int.ofNat_lt.1 this
    have p2 : Y < 2 ^ (8 * n) := by
      have : ((Y : Nat) : Int) < ((2 ^ (8 * n) : Nat) : Int) := by rw [Int.natCast_pow]; exact e2
      exact Int.ofNat_lt.1 this
    rw [be_str, be_str, Bool.eq_iff_iff, beq_iff_eq, beq_iff_eq, eq_map (beN_lt _ _) (beN_lt _ _), beN_inj, Nat.mod_eq_of_lt p1, Nat.mod_eq_of_lt p2, Int.ofNat_inj]
  have q3 : (strOfNums (be n x)).size = n := by rw [strOfNums_size, be_len]
  have q4 : ((strOfNums (be n x)).size : Int) = (n : Int) := by rw [q3]
  have HAW := Aside0.mk (fun w => awake_calls w)
  have HPA := Aside0.mk (fun w => put_nil hwide ha ha2 (w := w))
  have HPB := Aside0.mk (fun w => put_nil hwide hb hb2 (w := w))
  go_enter Try.func4, Try.ntmps4
  go_wp2_with fail
  refine HA.out.mono ?_
  rintro en w' ⟨rfl, rfl⟩
  go_wp2_with fail
  refine HB.out.mono ?_
  rintro en w' ⟨rfl, rfl⟩
  go_wp2_with fail
  refine Reg.region_list [Reg.Is (.int .i64 (n : Int)), Reg.Is (.int .u64 x), (Bys (be n x)), Reg.Is (.string (strOfNums (be n x))), Reg.Is (.int .i64 (n : Int)), Reg.Is (.int .u64 y), (Bys (be n y)), Reg.Is (.string (strOfNums (be n y))), Reg.Is (.string (strOfNums (be n x))), Reg.Is (.string (strOfNums (be n y)))]
      [some 25, some 26, some 27, some 28, some 29, some 30, some 31, some 32, some 8, some 9] (by kernel_rfl) (by rfl) (by rfl) (by rfl) rfl ⟨Reg.mono_is _, Reg.mono_is _, (fun _ _ _ h hb => IsL.mono h hb), Reg.mono_is _, Reg.mono_is _, Reg.mono_is _, (fun _ _ _ h hb => IsL.mono h hb), Reg.mono_is _, Reg.mono_is _, Reg.mono_is _, trivial⟩ (Reg.noneOk_of (by rfl)) ⟨?_, ?_, ?_, ?_, ?_, ?_, ?_, ?_, ?_, ?_, trivial⟩ ?_
  · intro a w hl   -- 0: slot 25
    have q7 : a.eval (.tmp 7) = .int .i64 (n : Int) := hl.out 7 rfl
    have qc : ∀ x, a.eval (.const x) = x := fun _ => rfl
    refine Reg.does_is (x := .int .i64 (n : Int)) rfl rfl ?_
    clear hl
    generalize a.eval = ρ at *
    go_simp
  · intro a w hl   -- 1: slot 26
    have q0 : a.eval (.tmp 0) = .int .u64 x := hl.out 0 rfl
    have qc : ∀ x, a.eval (.const x) = x := fun _ => rfl
    refine Reg.does_is (x := .int .u64 x) rfl rfl ?_
    clear hl
    generalize a.eval = ρ at *
    go_simp
  · intro a w hl   -- 2: slot 27
    have q25 : a.eval (.tmp 25) = .int .i64 (n : Int) := hl.has 0 rfl
    have q26 : a.eval (.tmp 26) = .int .u64 x := hl.has 1 rfl
    have qc : ∀ x, a.eval (.const x) = x := fun _ => rfl
    refine Reg.does_call_p (p := Bys (be n x)) #[.slice none 0 0, .int .i64 (n : Int), .int .u64 x] rfl rfl Try.func9 (by kernel_rfl) rfl rfl (by simp [qc, q25, q26]) ?_
    exact HPA.out w
  · intro a w hl   -- 3: slot 28
    have q27 : (Bys (be n x)) (a.eval (.tmp 27)) w := hl.has 2 rfl
    have qc : ∀ x, a.eval (.const x) = x := fun _ => rfl
    refine Reg.does_is (x := .string (strOfNums (be n x))) rfl rfl ?_
    clear hl
    generalize a.eval = ρ at *
    obtain ⟨A, c1, e27, hc1, hC⟩ := q27
    have hst := Kd.C_string (P := Try.prog) (src := 22) (dst := 9) (e := 5) (c := c1) Try.underlying22 Try.underlying5 Try.underlying9 hC
    go_simp
  · intro a w hl   -- 4: slot 29
    have q7 : a.eval (.tmp 7) = .int .i64 (n : Int) := hl.out 7 rfl
    have qc : ∀ x, a.eval (.const x) = x := fun _ => rfl
    refine Reg.does_is (x := .int .i64 (n : Int)) rfl rfl ?_
    clear hl
    generalize a.eval = ρ at *
    go_simp
  · intro a w hl   -- 5: slot 30
    have q1 : a.eval (.tmp 1) = .int .u64 y := hl.out 1 rfl
    have qc : ∀ x, a.eval (.const x) = x := fun _ => rfl
    refine Reg.does_is (x := .int .u64 y) rfl rfl ?_
    clear hl
    generalize a.eval = ρ at *
    go_simp
  · intro a w hl   -- 6: slot 31
    have q29 : a.eval (.tmp 29) = .int .i64 (n : Int) := hl.has 4 rfl
    have q30 : a.eval (.tmp 30) = .int .u64 y := hl.has 5 rfl
    have qc : ∀ x, a.eval (.const x) = x := fun _ => rfl
    refine Reg.does_call_p (p := Bys (be n y)) #[.slice none 0 0, .int .i64 (n : Int), .int .u64 y] rfl rfl Try.func9 (by kernel_rfl) rfl rfl (by simp [qc, q29, q30]) ?_
    exact HPB.out w
  · intro a w hl   -- 7: slot 32
    have q31 : (Bys (be n y)) (a.eval (.tmp 31)) w := hl.has 6 rfl
    have qc : ∀ x, a.eval (.const x) = x := fun _ => rfl
    refine Reg.does_is (x := .string (strOfNums (be n y))) rfl rfl ?_
    clear hl
    generalize a.eval = ρ at *
    obtain ⟨A, c1, e31, hc1, hC⟩ := q31
    have hst := Kd.C_string (P := Try.prog) (src := 22) (dst := 9) (e := 5) (c := c1) Try.underlying22 Try.underlying5 Try.underlying9 hC
    go_simp
  · intro a w hl   -- 8: slot 8
    have q28 : a.eval (.tmp 28) = .string (strOfNums (be n x)) := hl.has 3 rfl
    have qc : ∀ x, a.eval (.const x) = x := fun _ => rfl
    refine Reg.does_is (x := .string (strOfNums (be n x))) rfl rfl ?_
    clear hl
    generalize a.eval = ρ at *
    go_simp
  · intro a w hl   -- 9: slot 9
    have q32 : a.eval (.tmp 32) = .string (strOfNums (be n y)) := hl.has 7 rfl
    have qc : ∀ x, a.eval (.const x) = x := fun _ => rfl
    refine Reg.does_is (x := .string (strOfNums (be n y))) rfl rfl ?_
    clear hl
    generalize a.eval = ρ at *
    go_simp
  · rintro v w hb ⟨e25, e26, e27, e28, e29, e30, e31, e32, e8, e9, _⟩
    replace e25 : v 0 = .int .i64 (n : Int) := e25
    replace e26 : v 1 = .int .u64 x := e26
    replace e27 : (Bys (be n x)) (v 2) w := e27
    replace e28 : v 3 = .string (strOfNums (be n x)) := e28
    replace e29 : v 4 = .int .i64 (n : Int) := e29
    replace e30 : v 5 = .int .u64 y := e30
    replace e31 : (Bys (be n y)) (v 6) w := e31
    replace e32 : v 7 = .string (strOfNums (be n y)) := e32
    replace e8 : v 8 = .string (strOfNums (be n x)) := e8
    replace e9 : v 9 = .string (strOfNums (be n y)) := e9
    simp only [Reg.putL, Act.put, List.setIfInBounds_toArray, List.set_cons_zero, List.set_cons_succ, e25, e26, e28, e29, e30, e32, e8, e9]
    clear e25 e26 e28 e29 e30 e32 e8 e9
    have HBB := Aside0.mk hb
    clear hb
    go_wp2_with fail
    refine (HAW.out _).mono ?_
    rintro en w2 ⟨rfl, hb2⟩
    have HB2 := Aside0.mk (below_step HBB.out hb2)
    clear hb2
    go_wp2_with fail
    go_ret
    exact ⟨by simp, HB2.out⟩

theorem stands_calls (x y c : Int) (ha : 0 ≤ x) (ha2 : x < 18446744073709551616) (hb : 0 ≤ y) (hb2 : y < 18446744073709551616) (hc : 0 ≤ c) (hc2 : c ≤ 255) (w : World) :
    Calls Try.prog 4 #[.int .u64 x, .int .u64 y, .int .u8 c] w fun e w' => e = .returned (.bool true) ∧ Below w.heap.size w w' := by
  by_cases h : fits (wd c) x ∧ fits (wd c) y
  · exact stands_fit x y c ha ha2 hb hb2 hc hc2 h.1 h.2 w
  · exact stands_unfit x y c ha ha2 hb hb2 hc hc2 h w
end Go.Proofs.Ytceaddpbebaldaa.Word
