/- What the reference's functions of rows come to, in plain lists: no memory. -/
import Derived.Test.YtcncninjnickoaaQ1
namespace Go.Proofs.Ytcncninjnickoaa.Q
open Go.RowKit Go.Proofs.YtcncninjnickoaaW.PrintWords Go.Proofs.YtcncninjnickoaaW.PrintLast Go.Proofs.YtcncninjnickoaaW.PrintMore
set_option linter.unusedVariables false
set_option linter.unusedSimpArgs false

theorem rd_lt {l : List Int} {i : Nat} (h : i < l.length) : rd l (i : Int) = l[i] := by
  unfold rd
  rw [Int.toNat_natCast, List.getD_eq_getElem?_getD, List.getElem?_eq_getElem h]
  rfl
theorem w64 {i : Nat} (h : i < 1152921504606846976) : wrap64 ((i : Int) + 1) = ((i + 1 : Nat) : Int) := by
  simp [wrap64, IntKind.wrap, IntKind.signed, IntKind.bits]
  omega

theorem same_l0 (a b : List Int) (hl : a.length = b.length) (hb : a.length < 1152921504606846976) : ∀ (k i : Nat), i ≤ a.length → a.length < k + i → sluicegateref05_Same.l0 k a b (i : Int) = some (decide (a.drop i = b.drop i)) := by
  intro k
  induction k with
  | zero => intro i h1 h2; omega
  | succ k ih =>
    intro i h1 h2
    simp only [sluicegateref05_Same.l0]
    by_cases hi : i < a.length
    · have hi2 : i < b.length := by omega
      rw [if_pos (by omega), if_pos (by omega), if_pos (by omega), rd_lt hi, rd_lt hi2, List.drop_eq_getElem_cons hi, List.drop_eq_getElem_cons hi2]
      by_cases e : a[i] = b[i]
      · rw [if_pos e, w64 (by omega), ih (i + 1) (by omega) (by omega), e]
        generalize a.drop (i + 1) = u
        generalize b.drop (i + 1) = v
        generalize b[i] = c
        simp
      · rw [if_neg e]
        generalize a.drop (i + 1) = u
        generalize b.drop (i + 1) = v
        generalize a[i] = c at *
        generalize b[i] = d at *
        simp [e]
    · rw [if_neg (by omega), List.drop_of_length_le (by omega), List.drop_of_length_le (by omega)]
      simp
theorem same_f (k : Nat) (a b : List Int) (hb : a.length < 1152921504606846976) (hk : a.length < k) : sluicegateref05_Same.f k a b = some (decide (a = b)) := by
  unfold sluicegateref05_Same.f
  by_cases h : a.length = b.length
  · rw [if_pos (by omega)]
    have := same_l0 a b h hb k 0 (by omega) (by omega)
    simpa using this
  · rw [if_neg (by omega)]
    have : a ≠ b := fun e => h (by rw [e])
    simp [this]

theorem cut_l0 (a : List Int) (x : Int) (hb : a.length < 1099511627776) : ∀ (k i : Nat) (out : List Int), i ≤ a.length → a.length < k + i → out.length ≤ i → sluicegateref05_Cut.l0 k a x out (i : Int) = some (out ++ (a.drop i).filter (fun y => decide (y ≠ x))) := by
  intro k
  induction k with
  | zero => intro i out h1 h2; omega
  | succ k ih =>
    intro i out h1 h2 h3
    simp only [sluicegateref05_Cut.l0]
    by_cases hi : i < a.length
    · rw [if_pos (by omega), if_pos (by omega), rd_lt hi, List.drop_eq_getElem_cons hi]
      by_cases e : a[i] = x
      · rw [if_pos e, w64 (by omega), ih (i + 1) out (by omega) (by omega) (by omega)]
        simp [e]
      · rw [if_neg e, if_pos (by omega), w64 (by omega), ih (i + 1) _ (by omega) (by omega) (by simp; omega)]
        generalize a.drop (i + 1) = u
        generalize a[i] = c at *
        simp [e]
    · rw [if_neg (by omega), List.drop_of_length_le (by omega)]
      simp
theorem cut_f (k : Nat) (a : List Int) (x : Int) (hb : a.length < 1099511627776) (hk : a.length < k) : sluicegateref05_Cut.f k a x = some (a.filter (fun y => decide (y ≠ x))) := by
  unfold sluicegateref05_Cut.f
  have := cut_l0 a x hb k 0 [] (by omega) (by omega) (by simp)
  simpa using this

theorem has_l0 (a : List Int) (x : Int) (hb : a.length < 1152921504606846976) : ∀ (k i : Nat), i ≤ a.length → a.length < k + i → sluicegateref05_Has.l0 k a x (i : Int) = some (decide (x ∈ a.drop i)) := by
  intro k
  induction k with
  | zero => intro i h1 h2; omega
  | succ k ih =>
    intro i h1 h2
    simp only [sluicegateref05_Has.l0]
    by_cases hi : i < a.length
    · rw [if_pos (by omega), if_pos (by omega), rd_lt hi, List.drop_eq_getElem_cons hi]
      by_cases e : a[i] = x
      · rw [if_pos e]
        simp [e]
      · rw [if_neg e, w64 (by omega), ih (i + 1) (by omega) (by omega)]
        generalize a.drop (i + 1) = u
        generalize a[i] = c at *
        have e' : ¬ x = c := fun h => e h.symm
        simp [e']
    · rw [if_neg (by omega), List.drop_of_length_le (by omega)]
      simp
theorem has_f (k : Nat) (a : List Int) (x : Int) (hb : a.length < 1152921504606846976) (hk : a.length < k) : sluicegateref05_Has.f k a x = some (decide (x ∈ a)) := by
  unfold sluicegateref05_Has.f
  have := has_l0 a x hb k 0 (by omega) (by omega)
  simpa using this

theorem front_f (k : Nat) (a : List Int) (x : Int) (hb : a.length < 1099511627776) (hk : a.length < k) : sluicegateref05_Front.f k a x = some (x :: a.filter (fun y => decide (y ≠ x))) := by
  unfold sluicegateref05_Front.f
  rw [cut_f k a x hb hk]
  have := List.length_filter_le (fun y => decide (y ≠ x)) a
  simp only [Option.bind_some, List.length_cons, List.length_nil]
  rw [if_pos (by omega)]
  rfl
theorem back_f (k : Nat) (a : List Int) (x : Int) (hb : a.length < 1099511627776) (hk : a.length < k) : sluicegateref05_Back.f k a x = some (a.filter (fun y => decide (y ≠ x)) ++ [x]) := by
  unfold sluicegateref05_Back.f
  rw [cut_f k a x hb hk]
  have := List.length_filter_le (fun y => decide (y ≠ x)) a
  simp only [Option.bind_some]
  rw [if_pos (by omega)]
end Go.Proofs.Ytcncninjnickoaa.Q
