/- Fits. -/
import Derived.Test.YtceaddpbebaldaaWordAwake
import Derived.Test.YtceaddpbebaldaaWordMath
namespace Go.Proofs.Ytceaddpbebaldaa.Word
open Go.RowKit Go.Proofs.YtceaddpbebaldaaW.PrintWords Go.Proofs.YtceaddpbebaldaaW.PrintLast Go.Proofs.YtceaddpbebaldaaW.PrintMore
open Go.Proofs.Ytceaddpbebaldaa Go.Proofs.Ytceaddpbebaldaa.Vals
set_option linter.unusedVariables false
set_option linter.unusedSimpArgs false

def fits (n x : Int) : Prop := wide n ∧ x < 2 ^ (8 * n.toNat)
instance (n x : Int) : Decidable (fits n x) := by unfold fits; infer_instance

theorem div_zero {x m : Int} (hx : 0 ≤ x) (hm : 0 < m) : (x / m = 0) ↔ x < m := by
  constructor
  · intro h
    rcases Int.lt_or_le x m with h1 | h1
    · exact h1
    · have : 1 ≤ x / m := Int.le_ediv_of_mul_le hm (show (1 : Int) * m ≤ x by omega)
      omega
  · intro h
    exact Int.ediv_eq_zero_of_lt hx h

theorem fits_calls (n x : Int) (hx : 0 ≤ x) (hx2 : x < 18446744073709551616) (w : World) : Calls Try.prog 12 #[.int .i64 n, .int .u64 x] w fun e w' => e = .returned (.bool (decide (fits n x))) ∧ w = w' := by
  have hr := right_calls n w
  by_cases hn : wide n
  · rw [decide_eq_true hn] at hr
    have HW := Aside0.mk hr
    clear hr
    have hcase : n = 1 ∨ n = 2 ∨ n = 4 ∨ n = 8 := hn
    rcases hcase with rfl | rfl | rfl | rfl
    · have hf : decide (fits 1 x) = (x / 256 == 0) := by
        rw [Bool.eq_iff_iff, decide_eq_true_iff, beq_iff_eq, div_zero hx (by decide)]
        exact ⟨fun h => h.2, fun h => ⟨hn, h⟩⟩
      rw [hf]
      go_enter Try.func12, Try.ntmps12
      go_wp2_with fail
      refine HW.out.mono ?_
      rintro en w' ⟨rfl, rfl⟩
      go_wp2_with fail
      go_ret
      exact ⟨by simp, rfl⟩
    · have hf : decide (fits 2 x) = (x / 65536 == 0) := by
        rw [Bool.eq_iff_iff, decide_eq_true_iff, beq_iff_eq, div_zero hx (by decide)]
        exact ⟨fun h => h.2, fun h => ⟨hn, h⟩⟩
      rw [hf]
      go_enter Try.func12, Try.ntmps12
      go_wp2_with fail
      refine HW.out.mono ?_
      rintro en w' ⟨rfl, rfl⟩
      go_wp2_with fail
      go_ret
      exact ⟨by simp, rfl⟩
    · have hf : decide (fits 4 x) = (x / 4294967296 == 0) := by
        rw [Bool.eq_iff_iff, decide_eq_true_iff, beq_iff_eq, div_zero hx (by decide)]
        exact ⟨fun h => h.2, fun h => ⟨hn, h⟩⟩
      rw [hf]
      go_enter Try.func12, Try.ntmps12
      go_wp2_with fail
      refine HW.out.mono ?_
      rintro en w' ⟨rfl, rfl⟩
      go_wp2_with fail
      go_ret
      exact ⟨by simp, rfl⟩
    · have hf : decide (fits 8 x) = true := decide_eq_true ⟨hn, hx2⟩
      rw [hf]
      go_enter Try.func12, Try.ntmps12
      go_wp2_with fail
      refine HW.out.mono ?_
      rintro en w' ⟨rfl, rfl⟩
      go_wp2_with fail
      go_ret
      exact ⟨by simp, rfl⟩
  · rw [decide_eq_false hn] at hr
    have HW := Aside0.mk hr
    rw [decide_eq_false (fun h : fits n x => hn h.1)]
    clear hr
    go_enter Try.func12, Try.ntmps12
    go_wp2_with fail
    refine HW.out.mono ?_
    rintro en w' ⟨rfl, rfl⟩
    go_wp2_with fail
    go_ret
    exact ⟨by simp, rfl⟩
end Go.Proofs.Ytceaddpbebaldaa.Word
