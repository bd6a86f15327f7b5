/- The reference's bytes of a number are the number's bytes: no memory. -/
import Derived.Test.YtceaddpbebaldaaB1
import Derived.Test.YtceaddpbebaldaaWordFits
namespace Go.Proofs.Ytceaddpbebaldaa.Word
open Go.RowKit Go.Proofs.YtceaddpbebaldaaW.PrintWords Go.Proofs.YtceaddpbebaldaaW.PrintLast Go.Proofs.YtceaddpbebaldaaW.PrintMore
set_option linter.unusedVariables false
set_option linter.unusedSimpArgs false
theorem bytes_l0 (n : Nat) (x : Int) (hn : n ≤ 8) (hx : 0 ≤ x) (hx2 : x < 18446744073709551616) : ∀ (k i : Nat), i ≤ n → n < k + i → B.sluicegateref02_Bytes.l0 k (n : Int) (x / 2 ^ (8 * i)) (be i x) (i : Int) = some (be n x) := by
  intro k
  induction k with
  | zero => intro i h1 h2; omega
  | succ k ih =>
    intro i h1 h2
    simp only [B.sluicegateref02_Bytes.l0]
    by_cases hi : i < n
    · have c1 : (i : Int) < (n : Int) := by omega
      have c2 : 1 + i < 140737488355328 := by omega
      have c3 : i + 1 ≤ n := hi
      have c4 : n < k + (i + 1) := by omega
      have hw : wrap64 ((i : Int) + 1) = ((i + 1 : Nat) : Int) := by
        simp [wrap64, IntKind.wrap, IntKind.signed, IntKind.bits]; omega
      have hp : (0 : Int) < 2 ^ (8 * i) := Int.pow_pos (by decide)
      have h0 : 0 ≤ x / 2 ^ (8 * i) := Int.ediv_nonneg hx (Int.le_of_lt hp)
      have hle : x / 2 ^ (8 * i) ≤ x := Int.ediv_le_self _ hx
      have hm' := hp
      have hm : Int.tmod (x / 2 ^ (8 * i)) 256 % 256 = x / 2 ^ (8 * i) % 256 := by
        rw [Int.tmod_eq_emod_of_nonneg h0]
        generalize x / 2 ^ (8 * i) = q
        clear hp hm' h0 hle
        omega
      have hd : IntKind.u64.wrap (Int.tdiv (x / 2 ^ (8 * i)) 256) = x / 2 ^ (8 * (i + 1)) := by
        rw [Int.tdiv_eq_ediv_of_nonneg h0, show 8 * (i + 1) = 8 * i + 8 by omega, Int.pow_add, ← Int.ediv_ediv_of_nonneg (Int.le_of_lt hp)]
        generalize x / 2 ^ (8 * i) = q at *
        have hq : 0 ≤ q / 256 ∧ q / 256 < 18446744073709551616 := by omega
        rw [show (2 : Int) ^ 8 = 256 from rfl]
        generalize q / 256 = r at *
        simp [IntKind.wrap, IntKind.signed, IntKind.bits]
        omega
      rw [if_pos c1, hm, hd, hw]
      simp only [Option.bind_some, List.length_singleton, be_len]
      rw [if_pos (by simpa using c2)]
      have h := ih (i + 1) c3 c4
      rw [be.eq_2] at h
      exact h
    · rw [if_neg (by omega)]
      have : i = n := by omega
      subst this; rfl

theorem width_f (n : Int) : B.sluicegateref02_Width.f n = some (decide (wide n)) := by
  unfold B.sluicegateref02_Width.f
  by_cases h1 : n = 1
  · subst h1; rfl
  · by_cases h2 : n = 2
    · subst h2; rfl
    · by_cases h4 : n = 4
      · subst h4; rfl
      · by_cases h8 : n = 8
        · subst h8; rfl
        · simp [wide, h1, h2, h4, h8]
theorem bytes_wide (n : Nat) (x : Int) (hn : wide n) (hx : 0 ≤ x) (hx2 : x < 18446744073709551616) : B.sluicegateref02_Bytes.f 9 (n : Int) x = some (be n x) := by
  have hn8 : n ≤ 8 := by unfold wide at hn; omega
  unfold B.sluicegateref02_Bytes.f
  rw [width_f, decide_eq_true hn]
  have := bytes_l0 n x hn8 hx hx2 9 0 (by omega) (by omega)
  simpa [be] using this
theorem bytes_not (n : Int) (x : Int) (hn : ¬ wide n) : B.sluicegateref02_Bytes.f 9 n x = some [] := by
  unfold B.sluicegateref02_Bytes.f
  rw [width_f, decide_eq_false hn]
  rfl
end Go.Proofs.Ytceaddpbebaldaa.Word
