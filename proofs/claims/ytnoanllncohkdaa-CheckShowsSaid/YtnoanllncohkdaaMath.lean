/- What sums are, in plain numbers: no program in sight. -/
namespace Go.Proofs.Ytnoanllncohkdaa.Math

def S : List Int → Int
  | [] => 0
  | c :: t => c + S t
def W : List Int → Int
  | [] => 0
  | c :: t => ((t.length : Int) + 1) * c + W t

/-- Bytes. -/
def By (l : List Int) : Prop := ∀ c ∈ l, 0 ≤ c ∧ c ≤ 255

theorem By.tail {c : Int} {t : List Int} (h : By (c :: t)) : By t := fun x hx => h x (List.mem_cons_of_mem _ hx)
theorem By.head {c : Int} {t : List Int} (h : By (c :: t)) : 0 ≤ c ∧ c ≤ 255 := h c List.mem_cons_self
theorem By.app {a b : List Int} (ha : By a) (hb : By b) : By (a ++ b) := fun x hx => (List.mem_append.1 hx).elim (ha x) (hb x)
theorem By.take {a : List Int} (ha : By a) (n : Nat) : By (a.take n) := fun x hx => ha x (List.mem_of_mem_take hx)
theorem By.drop {a : List Int} (ha : By a) (n : Nat) : By (a.drop n) := fun x hx => ha x (List.mem_of_mem_drop hx)

theorem S_app (a b : List Int) : S (a ++ b) = S a + S b := by
  induction a with
  | nil => simp [S]
  | cons c t ih => simp only [List.cons_append, S, ih]; omega

theorem W_app (a b : List Int) : W (a ++ b) = W a + (b.length : Int) * S a + W b := by
  induction a with
  | nil => simp [S, W]
  | cons c t ih =>
    simp only [List.cons_append, S, W, ih, List.length_append]
    have : ((t.length + b.length : Nat) : Int) + 1 = ((t.length : Int) + 1) + b.length := by omega
    rw [this, Int.add_mul, Int.mul_add]
    omega

/-- The sum that the code makes: a state of two numbers below 65521. -/
def M (a : Int) (b : List Int) : Int := ((a / 65536 + b.length * (a % 65536) + W b) % 65521) * 65536 + (a % 65536 + S b) % 65521

theorem M_lo (a : Int) (b : List Int) : M a b % 65536 = (a % 65536 + S b) % 65521 := by
  unfold M
  have h1 := Int.emod_nonneg (a % 65536 + S b) (b := 65521) (by decide)
  have h2 := Int.emod_lt_of_pos (a % 65536 + S b) (b := 65521) (by decide)
  omega
theorem M_hi (a : Int) (b : List Int) : M a b / 65536 = (a / 65536 + b.length * (a % 65536) + W b) % 65521 := by
  unfold M
  have h1 := Int.emod_nonneg (a % 65536 + S b) (b := 65521) (by decide)
  have h2 := Int.emod_lt_of_pos (a % 65536 + S b) (b := 65521) (by decide)
  omega
theorem M_range (a : Int) (b : List Int) : 0 ≤ M a b ∧ M a b < 4294967296 := by
  unfold M
  have h1 := Int.emod_nonneg (a % 65536 + S b) (b := 65521) (by decide)
  have h2 := Int.emod_lt_of_pos (a % 65536 + S b) (b := 65521) (by decide)
  have h3 := Int.emod_nonneg (a / 65536 + b.length * (a % 65536) + W b) (b := 65521) (by decide)
  have h4 := Int.emod_lt_of_pos (a / 65536 + b.length * (a % 65536) + W b) (b := 65521) (by decide)
  omega

theorem mod_mul (n x : Int) : (n * (x % 65521)) % 65521 = (n * x) % 65521 := by rw [Int.mul_emod, Int.emod_emod_of_dvd _ (by decide : (65521 : Int) ∣ 65521), ← Int.mul_emod]

theorem M_app (a : Int) (b c : List Int) : M (M a b) c = M a (b ++ c) := by
  have hl := M_lo a b
  have hh := M_hi a b
  have e : M (M a b) c = ((M a b / 65536 + c.length * (M a b % 65536) + W c) % 65521) * 65536 + (M a b % 65536 + S c) % 65521 := rfl
  rw [e, hl, hh]
  unfold M
  rw [W_app, S_app, List.length_append]
  have m := mod_mul c.length (a % 65536 + S b)
  have d1 : (c.length : Int) * (a % 65536 + S b) = c.length * (a % 65536) + c.length * S b := by rw [Int.mul_add]
  have d2 : ((b.length + c.length : Nat) : Int) * (a % 65536) = b.length * (a % 65536) + c.length * (a % 65536) := by rw [Int.natCast_add, Int.add_mul]
  rw [d2]
  rw [d1] at m
  generalize (c.length : Int) * ((a % 65536 + S b) % 65521) = u at *
  generalize (b.length : Int) * (a % 65536) = v at *
  generalize (c.length : Int) * (a % 65536) = z at *
  generalize (c.length : Int) * S b = y at *
  generalize S b = sb at *
  generalize S c = sc at *
  generalize W b = wb at *
  generalize W c = wc at *
  congr 1
  · congr 1
    omega
  · omega

theorem S_bound {b : List Int} (h : By b) : 0 ≤ S b ∧ S b ≤ 255 * b.length := by
  induction b with
  | nil => simp [S]
  | cons c t ih =>
    have := ih h.tail
    have := h.head
    simp only [S, List.length_cons]
    omega

theorem S_set (b : List Int) (k : Nat) (c : Int) (hk : k < b.length) : S (b.set k c) = S b - b.getD k 0 + c := by
  induction b generalizing k with
  | nil => simp at hk
  | cons x t ih =>
    cases k with
    | zero => simp [S]; omega
    | succ k =>
      have := ih k (by simpa using hk)
      simp [S] at this ⊢
      omega

theorem W_set (b : List Int) (k : Nat) (c : Int) (hk : k < b.length) : W (b.set k c) = W b + ((b.length : Int) - k) * (c - b.getD k 0) := by
  induction b generalizing k with
  | nil => simp at hk
  | cons x t ih =>
    cases k with
    | zero =>
      simp only [List.set_cons_zero, W, List.length_cons, List.getD_cons_zero]
      have : (((t.length + 1 : Nat) : Int) - ((0 : Nat) : Int)) = (t.length : Int) + 1 := by omega
      rw [this, Int.mul_sub]
      omega
    | succ k =>
      have := ih k (by simpa using hk)
      simp only [List.set_cons_succ, W, List.length_set, this, List.length_cons, List.getD_cons_succ]
      have : (((t.length + 1 : Nat) : Int) - ((k + 1 : Nat) : Int)) = (t.length : Int) - k := by omega
      rw [this]
      omega

/-- One byte another one: the sum is another one. -/
theorem M_set {b : List Int} (h : By b) {k : Nat} (hk : k < b.length) {c : Int} (h0 : 0 ≤ c) (h1 : c ≤ 255) : M 1 (b.set k c) = M 1 b ↔ c = b.getD k 0 := by
  have hb : 0 ≤ b.getD k 0 ∧ b.getD k 0 ≤ 255 := by
    rw [List.getD_eq_getElem?_getD, List.getElem?_eq_getElem hk]
    exact h _ (List.getElem_mem hk)
  constructor
  · intro e
    have l1 := M_lo 1 (b.set k c)
    have l2 := M_lo 1 b
    rw [e, S_set b k c hk] at l1
    omega
  · rintro rfl
    congr 1
    rw [List.getD_eq_getElem?_getD, List.getElem?_eq_getElem hk]
    simp

/-- Two neighbours change places: the sum is another one, but if they are alike. -/
theorem M_swap {b : List Int} (h : By b) {k : Nat} (hk : k + 1 < b.length) : M 1 ((b.set k (b.getD (k + 1) 0)).set (k + 1) (b.getD k 0)) = M 1 b ↔ b.getD k 0 = b.getD (k + 1) 0 := by
  have hb : ∀ j, j < b.length → 0 ≤ b.getD j 0 ∧ b.getD j 0 ≤ 255 := by
    intro j hj
    rw [List.getD_eq_getElem?_getD, List.getElem?_eq_getElem hj]
    exact h _ (List.getElem_mem hj)
  have h0 := hb k (by omega)
  have h1 := hb (k + 1) hk
  have g : (b.set k (b.getD (k + 1) 0)).getD (k + 1) 0 = b.getD (k + 1) 0 := by
    rw [List.getD_eq_getElem?_getD, List.getElem?_set_ne (by omega), ← List.getD_eq_getElem?_getD]
  have s := S_set (b.set k (b.getD (k + 1) 0)) (k + 1) (b.getD k 0) (by simpa using hk)
  rw [S_set b k _ (by omega), g] at s
  have w := W_set (b.set k (b.getD (k + 1) 0)) (k + 1) (b.getD k 0) (by simpa using hk)
  rw [W_set b k _ (by omega), g, List.length_set] at w
  generalize b.getD k 0 = x at *
  generalize b.getD (k + 1) 0 = y at *
  have e1 : ((b.length : Int) - k) * (y - x) + ((b.length : Int) - ((k + 1 : Nat) : Int)) * (x - y) = y - x := by
    have : x - y = -(y - x) := by omega
    rw [this, Int.mul_neg, ← Int.neg_mul, ← Int.add_mul]
    have : ((b.length : Int) - k) + -((b.length : Int) - ((k + 1 : Nat) : Int)) = 1 := by omega
    rw [this]
    omega
  have w' : W ((b.set k y).set (k + 1) x) = W b + (y - x) := by omega
  constructor
  · intro e
    have l1 := M_hi 1 ((b.set k y).set (k + 1) x)
    have l2 := M_hi 1 b
    rw [e, w', List.length_set, List.length_set] at l1
    omega
  · rintro rfl
    unfold M
    rw [s, w', List.length_set, List.length_set]
    congr 2
    · omega
    · omega
end Go.Proofs.Ytnoanllncohkdaa.Math
