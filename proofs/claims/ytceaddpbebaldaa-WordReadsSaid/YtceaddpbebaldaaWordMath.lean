/- Numbers and their bytes, in plain lists: no memory. -/
import Derived.Test.YtceaddpbebaldaaWord4
namespace Go.Proofs.Ytceaddpbebaldaa.Word
set_option linter.unusedVariables false
def beN : Nat → Nat → List Nat
  | 0, _ => []
  | k + 1, v => (v / 2 ^ (8 * k) % 256) :: beN k v
theorem be_nat (k a : Nat) : be k (a : Int) = (beN k a).map Int.ofNat := by
  induction k with
  | zero => rfl
  | succ k ih =>
    simp only [be, beN, List.map_cons, ih]
    congr 1
theorem beN_lt (k a : Nat) : ∀ c ∈ beN k a, c < 256 := by
  induction k with
  | zero => intro c hc; simp [beN] at hc
  | succ k ih =>
    intro c hc
    simp only [beN, List.mem_cons] at hc
    rcases hc with rfl | hc
    · exact Nat.mod_lt _ (by decide)
    · exact ih c hc
theorem pow8 (k : Nat) : 2 ^ (8 * (k + 1)) = 2 ^ (8 * k) * 256 := by rw [show 8 * (k + 1) = 8 * k + 8 by omega, Nat.pow_add]
/-- Rows of bytes of one length stand as their numbers do. -/
theorem beN_lex (a b : Nat) : ∀ k, beN k a < beN k b ↔ a % 2 ^ (8 * k) < b % 2 ^ (8 * k)
  | 0 => by simp [beN, Nat.mod_one]
  | k + 1 => by
    have ih := beN_lex a b k
    simp only [beN, List.cons_lt_cons_iff, ih]
    rw [pow8, Nat.mod_mul, Nat.mod_mul]
    have hp : 0 < 2 ^ (8 * k) := Nat.pow_pos (by decide)
    have h1 := Nat.mod_lt a hp
    have h2 := Nat.mod_lt b hp
    generalize a / 2 ^ (8 * k) % 256 = x
    generalize b / 2 ^ (8 * k) % 256 = y
    generalize a % 2 ^ (8 * k) = p at *
    generalize b % 2 ^ (8 * k) = q at *
    generalize 2 ^ (8 * k) = m at *
    rcases Nat.lt_trichotomy x y with h | h | h
    · have h3 : m * x + m ≤ m * y := by rw [← Nat.mul_succ]; exact Nat.mul_le_mul_left m h
      constructor
      · intro _; omega
      · intro _; exact Or.inl h
    · subst h
      constructor
      · rintro (h | h)
        · omega
        · omega
      · intro h; exact Or.inr ⟨rfl, by omega⟩
    · have h3 : m * y + m ≤ m * x := by rw [← Nat.mul_succ]; exact Nat.mul_le_mul_left m h
      constructor
      · rintro (h' | h')
        · omega
        · omega
      · intro _; omega
theorem beN_inj (a b : Nat) : ∀ k, beN k a = beN k b ↔ a % 2 ^ (8 * k) = b % 2 ^ (8 * k)
  | 0 => by simp [beN, Nat.mod_one]
  | k + 1 => by
    have ih := beN_inj a b k
    simp only [beN, List.cons.injEq, ih]
    rw [pow8, Nat.mod_mul, Nat.mod_mul]
    have hp : 0 < 2 ^ (8 * k) := Nat.pow_pos (by decide)
    have h1 := Nat.mod_lt a hp
    have h2 := Nat.mod_lt b hp
    generalize a / 2 ^ (8 * k) % 256 = x
    generalize b / 2 ^ (8 * k) % 256 = y
    generalize a % 2 ^ (8 * k) = p at *
    generalize b % 2 ^ (8 * k) = q at *
    generalize 2 ^ (8 * k) = m at *
    constructor
    · rintro ⟨rfl, rfl⟩; rfl
    · intro h
      rcases Nat.lt_trichotomy x y with h' | h' | h'
      · have h3 : m * x + m ≤ m * y := by rw [← Nat.mul_succ]; exact Nat.mul_le_mul_left m h'
        omega
      · subst h'; exact ⟨rfl, by omega⟩
      · have h3 : m * y + m ≤ m * x := by rw [← Nat.mul_succ]; exact Nat.mul_le_mul_left m h'
        omega
theorem num_from (l : List Int) (x : Int) : l.foldl (fun a c => a * 256 + c) x = x * 256 ^ l.length + num l := by
  induction l generalizing x with
  | nil => simp [num]
  | cons c t ih =>
    simp only [List.foldl_cons, num, List.length_cons]
    rw [ih, ih (0 * 256 + c), Int.pow_succ]
    have : (x * 256 + c) * 256 ^ t.length = x * (256 ^ t.length * 256) + c * 256 ^ t.length := by
      rw [Int.add_mul, Int.mul_assoc, Int.mul_comm 256 (256 ^ t.length)]
    rw [this]
    simp only [Int.zero_mul, Int.zero_add]
    omega
theorem be_len (k : Nat) (v : Int) : (be k v).length = k := by
  induction k with
  | zero => rfl
  | succ k ih => simp [be, ih]
theorem num_be (a : Nat) : ∀ k, num (be k (a : Int)) = ((a % 2 ^ (8 * k) : Nat) : Int)
  | 0 => by simp [be, num, Nat.mod_one]
  | k + 1 => by
    have ih := num_be a k
    simp only [be, num, List.foldl_cons]
    rw [num_from, be_len, ih, pow8, Nat.mod_mul]
    have e1 : (256 : Int) ^ k = ((2 ^ (8 * k) : Nat) : Int) := by
      rw [Nat.pow_mul, Int.natCast_pow]; rfl
    have e2 : ((a : Int) / 2 ^ (8 * k) % 256) = ((a / 2 ^ (8 * k) % 256 : Nat) : Int) := by
      simp only [Int.natCast_emod, Int.natCast_ediv, Int.natCast_pow]; rfl
    rw [e1, e2, Int.natCast_add, Int.natCast_mul, Int.zero_mul, Int.zero_add, Int.mul_comm, Int.add_comm]
end Go.Proofs.Ytceaddpbebaldaa.Word
