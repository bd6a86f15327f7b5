/- Settings in plain numbers, and what the functions of settings come to: no memory. -/
import Derived.Test.YtlnndkhnabooeaaQConf
namespace Go.Proofs.Ytlnndkhnabooeaa.Q
open Go.RowKit Go.Proofs.YtlnndkhnabooeaaW.PrintWords Go.Proofs.YtlnndkhnabooeaaW.PrintLast Go.Proofs.YtlnndkhnabooeaaW.PrintMore
set_option linter.unusedVariables false

/-- Settings. -/
structure Cfg where
  blocks : Int
  bytes : Int
  frames : Int
  fan : Int
  buf : Int
  leaf : Int
  key : Int
  val : Int
abbrev Cfg.v (c : Cfg) : Value := .agg #[.int .i64 c.blocks, .int .i64 c.bytes, .int .i64 c.frames, .int .i64 c.fan, .int .i64 c.buf, .int .i64 c.leaf, .int .i64 c.key, .int .i64 c.val]
def Cfg.sized (c : Cfg) : Prop := 8 ≤ c.fan ∧ c.fan ≤ 64 ∧ 2 * c.fan ≤ c.buf ∧ c.buf ≤ 512 ∧ c.buf ≤ c.leaf ∧ c.leaf ≤ 1024 ∧ 1 ≤ c.key ∧ c.key ≤ 64 ∧ 0 ≤ c.val ∧ c.val ≤ 256
instance (c : Cfg) : Decidable c.sized := by unfold Cfg.sized; infer_instance
def Cfg.inner (c : Cfg) : Int := 8 + 4 * c.fan + (c.fan - 1) * (1 + c.key) + c.buf * (4 + c.key + c.val)
def Cfg.outer (c : Cfg) : Int := 8 + c.leaf * (3 + c.key + c.val)
def Cfg.move (c : Cfg) : Int := (c.buf + 2 * c.fan - 1) / (2 * c.fan)
def Cfg.right (c : Cfg) : Prop := c.sized ∧ 5 ≤ c.blocks ∧ c.blocks ≤ 65536 ∧ 8 ≤ c.frames ∧ c.frames ≤ 64 ∧ c.bytes ≤ 65536 ∧ 64 ≤ c.bytes ∧ c.inner ≤ c.bytes ∧ c.outer ≤ c.bytes
instance (c : Cfg) : Decidable c.right := by unfold Cfg.right; infer_instance

theorem mul_bd {a b A B : Int} (h0 : 0 ≤ a) (h1 : a ≤ A) (h2 : 0 ≤ b) (h3 : b ≤ B) : 0 ≤ a * b ∧ a * b ≤ A * B :=
  ⟨Int.mul_nonneg h0 h2, Int.mul_le_mul h1 h3 h2 (by omega)⟩
theorem Cfg.inner_bd {c : Cfg} (h : c.sized) : 64 ≤ c.inner ∧ c.inner ≤ 300000 ∧ 0 ≤ (c.fan - 1) * (1 + c.key) ∧ (c.fan - 1) * (1 + c.key) ≤ 63 * 65 ∧ 0 ≤ c.buf * (4 + c.key + c.val) ∧ c.buf * (4 + c.key + c.val) ≤ 512 * 324 := by
  unfold Cfg.sized at h
  have a := mul_bd (a := c.fan - 1) (b := 1 + c.key) (A := 63) (B := 65) (by omega) (by omega) (by omega) (by omega)
  have b := mul_bd (a := c.buf) (b := 4 + c.key + c.val) (A := 512) (B := 324) (by omega) (by omega) (by omega) (by omega)
  have d : 16 * 5 ≤ c.buf * (4 + c.key + c.val) := Int.mul_le_mul (by omega) (by omega) (by omega) (by omega)
  unfold Cfg.inner
  omega
theorem Cfg.outer_bd {c : Cfg} (h : c.sized) : 64 ≤ c.outer ∧ c.outer ≤ 400000 ∧ 0 ≤ c.leaf * (3 + c.key + c.val) ∧ c.leaf * (3 + c.key + c.val) ≤ 1024 * 323 := by
  unfold Cfg.sized at h
  have b := mul_bd (a := c.leaf) (b := 3 + c.key + c.val) (A := 1024) (B := 323) (by omega) (by omega) (by omega) (by omega)
  have d : 16 * 4 ≤ c.leaf * (3 + c.key + c.val) := Int.mul_le_mul (by omega) (by omega) (by omega) (by omega)
  unfold Cfg.outer
  omega
theorem w64 {x : Int} (h0 : -4611686018427387904 ≤ x) (h1 : x ≤ 4611686018427387904) : wrap64 x = x := by unfold wrap64; omega

theorem sized_is (c : Cfg) (k : Nat) (hk : 5 ≤ k) : conf_sized.f k c.blocks c.bytes c.frames c.fan c.buf c.leaf c.key c.val = some (decide c.sized) := by
  obtain ⟨k, rfl⟩ : ∃ m, k = m + 5 := ⟨k - 5, by omega⟩
  have e : ∀ p : Prop, ∀ [Decidable p], (p ↔ c.sized) → some (decide p) = some (decide c.sized) := fun p _ h => by simp [h]
  unfold conf_sized.f
  by_cases h1 : 8 ≤ c.fan ∧ c.fan ≤ 64
  · rw [if_neg (by omega), show decide (c.fan > 64) = false from decide_eq_false (by omega)]
    simp only [conf_sized.j0]
    rw [if_neg (by decide), w64 (x := 2 * c.fan) (by omega) (by omega)]
    by_cases h2 : 2 * c.fan ≤ c.buf ∧ c.buf ≤ 512
    · rw [if_neg (by omega), show decide (c.buf > 512) = false from decide_eq_false (by omega)]
      simp only [conf_sized.j1]
      rw [if_neg (by decide)]
      by_cases h3 : c.buf ≤ c.leaf ∧ c.leaf ≤ 1024
      · rw [if_neg (by omega), show decide (c.leaf > 1024) = false from decide_eq_false (by omega)]
        simp only [conf_sized.j2]
        rw [if_neg (by decide)]
        by_cases h4 : 1 ≤ c.key ∧ c.key ≤ 64
        · rw [if_neg (by omega), show decide (c.key > 64) = false from decide_eq_false (by omega)]
          simp only [conf_sized.j3]
          rw [if_neg (by decide)]
          by_cases h5 : 0 ≤ c.val ∧ c.val ≤ 256
          · rw [if_neg (by omega), if_neg (by omega), show decide c.sized = true from decide_eq_true (by unfold Cfg.sized; omega)]
          · rw [show decide c.sized = false from decide_eq_false (by unfold Cfg.sized; omega)]
            by_cases h6 : c.val < 0
            · rw [if_pos h6]
            · rw [if_neg h6, if_pos (by omega)]
        · rw [show decide c.sized = false from decide_eq_false (by unfold Cfg.sized; omega)]
          by_cases h6 : c.key < 1
          · rw [if_pos h6]; simp [conf_sized.j3]
          · rw [if_neg h6, show decide (c.key > 64) = true from decide_eq_true (by omega)]; simp [conf_sized.j3]
      · rw [show decide c.sized = false from decide_eq_false (by unfold Cfg.sized; omega)]
        by_cases h6 : c.leaf < c.buf
        · rw [if_pos h6]; simp [conf_sized.j2]
        · rw [if_neg h6, show decide (c.leaf > 1024) = true from decide_eq_true (by omega)]; simp [conf_sized.j2]
    · rw [show decide c.sized = false from decide_eq_false (by unfold Cfg.sized; omega)]
      by_cases h6 : c.buf < 2 * c.fan
      · rw [if_pos h6]; simp [conf_sized.j1]
      · rw [if_neg h6, show decide (c.buf > 512) = true from decide_eq_true (by omega)]; simp [conf_sized.j1]
  · rw [show decide c.sized = false from decide_eq_false (by unfold Cfg.sized; omega)]
    by_cases h6 : c.fan < 8
    · rw [if_pos h6]; simp [conf_sized.j0]
    · rw [if_neg h6, show decide (c.fan > 64) = true from decide_eq_true (by omega)]; simp [conf_sized.j0]

theorem inner_is (c : Cfg) (k : Nat) (hk : 5 ≤ k) : conf_Inner.f k c.blocks c.bytes c.frames c.fan c.buf c.leaf c.key c.val = some (if c.sized then c.inner else 0) := by
  unfold conf_Inner.f
  rw [sized_is c k hk]
  simp only [Option.bind_some]
  by_cases h : c.sized
  · obtain ⟨_, _, b1, b2, b3, b4⟩ := c.inner_bd h
    rw [if_pos (by simpa using h), if_pos h]
    have h' := h
    unfold Cfg.sized at h'
    rw [w64 (x := c.fan - 1) (by omega) (by omega), w64 (x := 1 + c.key) (by omega) (by omega), w64 (x := 4 * c.fan) (by omega) (by omega), w64 (x := 8 + 4 * c.fan) (by omega) (by omega), w64 (x := (c.fan - 1) * (1 + c.key)) (by omega) (by omega), w64 (x := 4 + c.key) (by omega) (by omega), w64 (x := 4 + c.key + c.val) (by omega) (by omega), w64 (x := c.buf * (4 + c.key + c.val)) (by omega) (by omega), w64 (x := 8 + 4 * c.fan + (c.fan - 1) * (1 + c.key)) (by omega) (by omega), w64 (by omega) (by omega)]
    rfl
  · rw [if_neg (by simpa using h), if_neg h]
theorem outer_is (c : Cfg) (k : Nat) (hk : 5 ≤ k) : conf_Outer.f k c.blocks c.bytes c.frames c.fan c.buf c.leaf c.key c.val = some (if c.sized then c.outer else 0) := by
  unfold conf_Outer.f
  rw [sized_is c k hk]
  simp only [Option.bind_some]
  by_cases h : c.sized
  · obtain ⟨_, _, b1, b2⟩ := c.outer_bd h
    rw [if_pos (by simpa using h), if_pos h]
    have h' := h
    unfold Cfg.sized at h'
    rw [w64 (x := 3 + c.key) (by omega) (by omega), w64 (x := 3 + c.key + c.val) (by omega) (by omega), w64 (x := c.leaf * (3 + c.key + c.val)) (by omega) (by omega), w64 (by omega) (by omega)]
    rfl
  · rw [if_neg (by simpa using h), if_neg h]
/-- Settings with as few bytes as may be. -/
def Cfg.least (c : Cfg) : Cfg := if c.sized then { c with bytes := mx (mx 64 c.inner) c.outer } else c
theorem least_is (c : Cfg) (k : Nat) (hk : 5 ≤ k) : conf_Least.f k c.blocks c.bytes c.frames c.fan c.buf c.leaf c.key c.val = some (c.least.blocks, c.least.bytes, c.least.frames, c.least.fan, c.least.buf, c.least.leaf, c.least.key, c.least.val) := by
  unfold conf_Least.f
  rw [sized_is c k hk, inner_is c k hk, outer_is c k hk]
  simp only [Option.bind_some]
  unfold Cfg.least
  by_cases h : c.sized
  · simp [h]
  · simp [h]
end Go.Proofs.Ytlnndkhnabooeaa.Q
