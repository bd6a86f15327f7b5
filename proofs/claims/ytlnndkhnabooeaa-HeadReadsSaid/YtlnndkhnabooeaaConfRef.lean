/- What the document's settings come to: no memory; and their calls. -/
import Derived.Test.YtlnndkhnabooeaaConfFns
import Derived.Test.YtlnndkhnabooeaaQ3
namespace Go.Proofs.Ytlnndkhnabooeaa.Q
open Go.RowKit Go.Proofs.YtlnndkhnabooeaaW.PrintWords Go.Proofs.YtlnndkhnabooeaaW.PrintLast Go.Proofs.YtlnndkhnabooeaaW.PrintMore
set_option linter.unusedVariables false
set_option linter.unusedSimpArgs false

theorem in_is (a b c : Int) : sluicegateref09_in.f a b c = some (decide (b ≤ a ∧ a ≤ c)) := by
  unfold sluicegateref09_in.f
  by_cases h : b ≤ a
  · rw [if_pos h]; simp [h]
  · rw [if_neg h]; simp [h]
theorem rsized_is (c : Cfg) (k : Nat) (hk : 1 ≤ k) : sluicegateref09_Sized.f k c.blocks c.bytes c.frames c.fan c.buf c.leaf c.key c.val = some (decide c.sized) := by
  obtain ⟨k, rfl⟩ : ∃ m, k = m + 1 := ⟨k - 1, by omega⟩
  unfold sluicegateref09_Sized.f
  simp only [in_is, Option.bind_some, sluicegateref09_Sized.j0]
  by_cases h1 : 8 ≤ c.fan ∧ c.fan ≤ 64
  · rw [decide_eq_true h1, if_pos rfl, w64 (x := 2 * c.fan) (by omega) (by omega)]
    by_cases h2 : 1 ≤ c.key ∧ c.key ≤ 64
    · rw [decide_eq_true h2, if_pos rfl]
      by_cases h3 : 0 ≤ c.val ∧ c.val ≤ 256
      · rw [decide_eq_true h3]
        by_cases h4 : 2 * c.fan ≤ c.buf ∧ c.buf ≤ 512
        · rw [decide_eq_true h4]
          have e : (c.buf ≤ c.leaf ∧ c.leaf ≤ 1024) ↔ c.sized := by unfold Cfg.sized; omega
          simp [e]
        · have e : ¬ c.sized := by unfold Cfg.sized; omega
          simp [h4, e]
      · have e : ¬ c.sized := by unfold Cfg.sized; omega
        simp [h3, e]
    · have e : ¬ c.sized := by unfold Cfg.sized; omega
      simp [h2, e]
  · have e : ¬ c.sized := by unfold Cfg.sized; omega
    simp [h1, e]

theorem rinner_l1 (c : Cfg) (h : c.sized) : ∀ (n : Nat) (x y : Int) (k : Nat), 0 ≤ y → y + n = c.buf → 0 ≤ x → x ≤ 1000000 + 324 * y → n < k →
    sluicegateref09_Inner.l1 k x y c.blocks c.bytes c.frames c.fan c.buf c.leaf c.key c.val = some (x + n * (4 + c.key + c.val)) := by
  intro n
  induction n with
  | zero =>
    intro x y k h0 h1 h2 h3 hk
    obtain ⟨k, rfl⟩ : ∃ m, k = m + 1 := ⟨k - 1, by omega⟩
    simp only [sluicegateref09_Inner.l1]
    rw [if_neg (by omega)]
    simp
  | succ n ih =>
    intro x y k h0 h1 h2 h3 hk
    obtain ⟨k, rfl⟩ : ∃ m, k = m + 1 := ⟨k - 1, by omega⟩
    have h' := h
    unfold Cfg.sized at h'
    simp only [sluicegateref09_Inner.l1]
    rw [if_pos (by omega), w64 (x := x + 4) (by omega) (by omega), w64 (x := x + 4 + c.key) (by omega) (by omega), w64 (x := x + 4 + c.key + c.val) (by omega) (by omega), w64 (x := y + 1) (by omega) (by omega), ih (x + 4 + c.key + c.val) (y + 1) k (by omega) (by omega) (by omega) (by omega) (by omega)]
    congr 1
    rw [Int.natCast_add, Int.add_mul]
    omega
theorem rinner_l0 (c : Cfg) (h : c.sized) : ∀ (n : Nat) (x y : Int) (k : Nat), 1 ≤ y → y + n = c.fan → 0 ≤ x → x ≤ 1000 + 100 * y → n + c.buf.toNat + 1 < k →
    sluicegateref09_Inner.l0 k x y c.blocks c.bytes c.frames c.fan c.buf c.leaf c.key c.val = some (x + n * (5 + c.key) + c.buf * (4 + c.key + c.val)) := by
  intro n
  have h' := h
  unfold Cfg.sized at h'
  induction n with
  | zero =>
    intro x y k h0 h1 h2 h3 hk
    obtain ⟨k, rfl⟩ : ∃ m, k = m + 1 := ⟨k - 1, by omega⟩
    simp only [sluicegateref09_Inner.l0]
    rw [if_neg (by omega), rinner_l1 c h c.buf.toNat x 0 k (by omega) (by omega) (by omega) (by omega) (by omega)]
    rw [Int.toNat_of_nonneg (by omega)]
    simp
  | succ n ih =>
    intro x y k h0 h1 h2 h3 hk
    obtain ⟨k, rfl⟩ : ∃ m, k = m + 1 := ⟨k - 1, by omega⟩
    simp only [sluicegateref09_Inner.l0]
    rw [if_pos (by omega), if_pos (by omega), w64 (x := x + 4) (by omega) (by omega), w64 (x := x + 4 + 1) (by omega) (by omega), w64 (x := x + 4 + 1 + c.key) (by omega) (by omega), w64 (x := y + 1) (by omega) (by omega), ih (x + 4 + 1 + c.key) (y + 1) k (by omega) (by omega) (by omega) (by omega) (by omega)]
    congr 1
    rw [Int.natCast_add, Int.add_mul]
    omega
theorem rinner_is (c : Cfg) (k : Nat) (hk : 700 ≤ k) : sluicegateref09_Inner.f k c.blocks c.bytes c.frames c.fan c.buf c.leaf c.key c.val = some (if c.sized then c.inner else 0) := by
  unfold sluicegateref09_Inner.f
  rw [rsized_is c k (by omega)]
  simp only [Option.bind_some]
  by_cases h : c.sized
  · rw [if_pos (by simpa using h), if_pos h]
    have h' := h
    unfold Cfg.sized at h'
    obtain ⟨k, rfl⟩ : ∃ m, k = m + 1 := ⟨k - 1, by omega⟩
    simp only [sluicegateref09_Inner.l0]
    rw [if_pos (by omega), if_neg (by omega), w64 (x := 8 + 4) (by omega) (by omega), w64 (x := 0 + 1) (by omega) (by omega)]
    rw [rinner_l0 c h (c.fan - 1).toNat (8 + 4) (0 + 1) k (by omega) (by omega) (by omega) (by omega) (by omega), Int.toNat_of_nonneg (by omega)]
    congr 1
    unfold Cfg.inner
    have e : (c.fan - 1) * (5 + c.key) = (c.fan - 1) * 4 + (c.fan - 1) * (1 + c.key) := by rw [← Int.mul_add]; congr 1; omega
    rw [e]
    omega
  · rw [if_neg (by simpa using h), if_neg h]
theorem router_l0 (c : Cfg) (h : c.sized) : ∀ (n : Nat) (x y : Int) (k : Nat), 0 ≤ y → y + n = c.leaf → 0 ≤ x → x ≤ 1000000 + 324 * y → n < k →
    sluicegateref09_Outer.l0 k x y c.blocks c.bytes c.frames c.fan c.buf c.leaf c.key c.val = some (x + n * (3 + c.key + c.val)) := by
  intro n
  induction n with
  | zero =>
    intro x y k h0 h1 h2 h3 hk
    obtain ⟨k, rfl⟩ : ∃ m, k = m + 1 := ⟨k - 1, by omega⟩
    simp only [sluicegateref09_Outer.l0]
    rw [if_neg (by omega)]
    simp
  | succ n ih =>
    intro x y k h0 h1 h2 h3 hk
    obtain ⟨k, rfl⟩ : ∃ m, k = m + 1 := ⟨k - 1, by omega⟩
    have h' := h
    unfold Cfg.sized at h'
    simp only [sluicegateref09_Outer.l0]
    rw [if_pos (by omega), w64 (x := x + 3) (by omega) (by omega), w64 (x := x + 3 + c.key) (by omega) (by omega), w64 (x := x + 3 + c.key + c.val) (by omega) (by omega), w64 (x := y + 1) (by omega) (by omega), ih (x + 3 + c.key + c.val) (y + 1) k (by omega) (by omega) (by omega) (by omega) (by omega)]
    congr 1
    rw [Int.natCast_add, Int.add_mul]
    omega
theorem router_is (c : Cfg) (k : Nat) (hk : 1100 ≤ k) : sluicegateref09_Outer.f k c.blocks c.bytes c.frames c.fan c.buf c.leaf c.key c.val = some (if c.sized then c.outer else 0) := by
  unfold sluicegateref09_Outer.f
  rw [rsized_is c k (by omega)]
  simp only [Option.bind_some]
  by_cases h : c.sized
  · rw [if_pos (by simpa using h), if_pos h]
    have h' := h
    unfold Cfg.sized at h'
    rw [router_l0 c h c.leaf.toNat 8 0 k (by omega) (by omega) (by omega) (by omega) (by omega), Int.toNat_of_nonneg (by omega)]
    rfl
  · rw [if_neg (by simpa using h), if_neg h]
theorem rright_is (c : Cfg) (k : Nat) (hk : 1100 ≤ k) : sluicegateref09_Right.f k c.blocks c.bytes c.frames c.fan c.buf c.leaf c.key c.val = some (decide c.right) := by
  unfold sluicegateref09_Right.f
  rw [rsized_is c k (by omega), rinner_is c k (by omega), router_is c k hk]
  simp only [in_is, Option.bind_some]
  by_cases h : c.sized
  · rw [decide_eq_true h, if_pos rfl, if_pos h, if_pos h]
    by_cases h1 : 5 ≤ c.blocks ∧ c.blocks ≤ 65536
    · rw [decide_eq_true h1, if_pos rfl]
      by_cases h2 : 8 ≤ c.frames ∧ c.frames ≤ 64
      · rw [decide_eq_true h2, if_pos rfl]
        by_cases h3 : 64 ≤ c.bytes ∧ c.bytes ≤ 65536
        · rw [decide_eq_true h3, if_pos rfl]
          by_cases h4 : c.inner ≤ c.bytes
          · rw [if_pos h4]
            have e : (c.outer ≤ c.bytes) ↔ c.right := by unfold Cfg.right; simp only [h, true_and]; omega
            simp [e]
          · have e : ¬ c.right := fun h => h4 h.2.2.2.2.2.2.2.1
            simp [h4, e]
        · have e : ¬ c.right := by unfold Cfg.right; omega
          simp [h3, e]
      · have e : ¬ c.right := by unfold Cfg.right; omega
        simp [h2, e]
    · have e : ¬ c.right := by unfold Cfg.right; omega
      simp [h1, e]
  · have e : ¬ c.right := fun h' => h h'.1
    simp [h, e]
theorem rright_calls (c : Cfg) (w : World) : Calls Try.prog 17 #[c.v] w fun e w' => e = .returned (.bool (decide c.right)) ∧ Below w.heap.size w w' :=
  sluicegateref09_Right.calls 1100 _ _ _ _ _ _ _ _ _ w (rright_is c 1100 (by omega))
end Go.Proofs.Ytlnndkhnabooeaa.Q
