/- The order of keys: no program. -/
import Derived.Test.YtcdgenoakpmlbaaMix4
namespace Go.Proofs.Ytcdgenoakpmlbaa.Mix
open Go.RowKit
set_option linter.unusedVariables false
set_option linter.unusedSimpArgs false

theorem cb_flip : ∀ a b : List UInt8, Lib.compareBytes b a = - Lib.compareBytes a b
  | [], [] => rfl
  | [], _ :: _ => rfl
  | _ :: _, [] => rfl
  | a :: s, b :: t => by
    simp only [Lib.compareBytes]
    by_cases h1 : a < b
    · have h2 : ¬ b < a := fun h => by have := UInt8.lt_asymm h1; exact this h
      rw [if_pos h1, if_neg h2, if_pos h1]; decide
    · rw [if_neg h1]
      by_cases h2 : b < a
      · rw [if_pos h2, if_neg h1, if_pos h2]
      · rw [if_neg h2, if_neg h2, if_neg h1]
        exact cb_flip s t
theorem cb_zero : ∀ a b : List UInt8, Lib.compareBytes a b = 0 → a = b
  | [], [], _ => rfl
  | [], _ :: _, h => by simp [Lib.compareBytes] at h
  | _ :: _, [], h => by simp [Lib.compareBytes] at h
  | a :: s, b :: t, h => by
    simp only [Lib.compareBytes] at h
    by_cases h1 : a < b
    · rw [if_pos h1] at h; simp at h
    · rw [if_neg h1] at h
      by_cases h2 : b < a
      · rw [if_pos h2] at h; simp at h
      · rw [if_neg h2] at h
        have e : a = b := UInt8.le_antisymm (UInt8.not_lt.1 h2) (UInt8.not_lt.1 h1)
        rw [e, cb_zero s t h]
theorem cb_self : ∀ a : List UInt8, Lib.compareBytes a a = 0
  | [] => rfl
  | a :: s => by
    simp only [Lib.compareBytes]
    rw [if_neg (UInt8.lt_irrefl a), if_neg (UInt8.lt_irrefl a)]
    exact cb_self s
theorem cb_trans : ∀ a b c : List UInt8, Lib.compareBytes a b < 0 → Lib.compareBytes b c < 0 → Lib.compareBytes a c < 0
  | [], b, [], h, h2 => by cases b <;> simp [Lib.compareBytes] at h h2
  | [], _, _ :: _, _, _ => by simp [Lib.compareBytes]
  | _ :: _, [], _, h, _ => by simp [Lib.compareBytes] at h
  | _ :: _, _ :: _, [], _, h => by simp [Lib.compareBytes] at h
  | a :: s, b :: t, c :: u, h, h2 => by
    simp only [Lib.compareBytes] at h h2 ⊢
    by_cases k1 : a < b
    · by_cases k2 : b < c
      · rw [if_pos (UInt8.lt_trans k1 k2)]; decide
      · rw [if_neg k2] at h2
        by_cases k3 : c < b
        · rw [if_pos k3] at h2; simp at h2
        · have e : b = c := UInt8.le_antisymm (UInt8.not_lt.1 k3) (UInt8.not_lt.1 k2)
          rw [← e, if_pos k1]; decide
    · rw [if_neg k1] at h
      by_cases k4 : b < a
      · rw [if_pos k4] at h; simp at h
      · rw [if_neg k4] at h
        have e : a = b := UInt8.le_antisymm (UInt8.not_lt.1 k4) (UInt8.not_lt.1 k1)
        rw [e]
        by_cases k2 : b < c
        · rw [if_pos k2]; decide
        · rw [if_neg k2] at h2 ⊢
          by_cases k3 : c < b
          · rw [if_pos k3] at h2; simp at h2
          · rw [if_neg k3] at h2 ⊢
            exact cb_trans s t u h h2
theorem cmp_zero {a b : ByteArray} (h : cmp a b = 0) : a = b := by
  apply ByteArray.ext
  apply Array.toList_inj.1
  exact cb_zero _ _ h
theorem cmp_self (a : ByteArray) : cmp a a = 0 := cb_self _
theorem cmp_flip (a b : ByteArray) : cmp b a = - cmp a b := cb_flip _ _
theorem cmp_trans {a b c : ByteArray} (h : cmp a b < 0) (h2 : cmp b c < 0) : cmp a c < 0 := cb_trans _ _ _ h h2
theorem lt_iff (a b : Qu) : lt a b = true ↔ cmp a.key b.key < 0 ∨ (a.key = b.key ∧ a.x.row < b.x.row) := by
  unfold lt lessB
  by_cases h : cmp a.key b.key = 0
  · rw [if_pos h, decide_eq_true_eq]
    exact ⟨fun g => Or.inr ⟨cmp_zero h, g⟩, fun g => by rcases g with g | g; omega; exact g.2⟩
  · rw [if_neg h, decide_eq_true_eq]
    exact ⟨fun g => Or.inl g, fun g => by rcases g with g | g; exact g; exact absurd (by rw [g.1]; exact cmp_self _) h⟩
theorem lt_irrefl (a : Qu) : lt a a = false := by
  cases h : lt a a
  · rfl
  · rcases (lt_iff a a).1 h with g | g
    · rw [cmp_self] at g; omega
    · omega
theorem lt_trans {a b c : Qu} (h : lt a b = true) (h2 : lt b c = true) : lt a c = true := by
  rw [lt_iff] at h h2 ⊢
  rcases h with h | ⟨e, h⟩
  · rcases h2 with h2 | ⟨e2, h2⟩
    · exact Or.inl (cmp_trans h h2)
    · rw [e2] at h; exact Or.inl h
  · rcases h2 with h2 | ⟨e2, h2⟩
    · rw [← e] at h2; exact Or.inl h2
    · exact Or.inr ⟨e.trans e2, by omega⟩
theorem lt_total {a b : Qu} (h : lt a b = false) (h2 : lt b a = false) : a.key = b.key ∧ a.x.row = b.x.row := by
  have n1 : ¬ (cmp a.key b.key < 0 ∨ (a.key = b.key ∧ a.x.row < b.x.row)) := fun g => by rw [(lt_iff a b).2 g] at h; cases h
  have n2 : ¬ (cmp b.key a.key < 0 ∨ (b.key = a.key ∧ b.x.row < a.x.row)) := fun g => by rw [(lt_iff b a).2 g] at h2; cases h2
  have hf := cmp_flip a.key b.key
  have hz : cmp a.key b.key = 0 := by
    have g1 : ¬ cmp a.key b.key < 0 := fun g => n1 (Or.inl g)
    have g2 : ¬ cmp b.key a.key < 0 := fun g => n2 (Or.inl g)
    omega
  have e := cmp_zero hz
  have g1 : ¬ a.x.row < b.x.row := fun g => n1 (Or.inr ⟨e, g⟩)
  have g2 : ¬ b.x.row < a.x.row := fun g => n2 (Or.inr ⟨e.symm, g⟩)
  exact ⟨e, by omega⟩
end Go.Proofs.Ytcdgenoakpmlbaa.Mix
