/- What sums are, in plain numbers: no program in sight. -/
import Derived.Test.YtlnndkhnabooeaaQ2
import Derived.Test.YtlnndkhnabooeaaQ4
namespace Go.Proofs.Ytlnndkhnabooeaa.Math

def S : List Int → Int
  | [] => 0
  | c :: t => c + S t
def W : List Int → Int
  | [] => 0
  | c :: t => ((t.length : Int) + 1) * c + W t

/-- Bytes. -/
def By (l : List Int) : Prop := ∀ c ∈ l, 0 ≤ c ∧ c ≤ 255

theorem By.tail {c : Int} {t : List Int} (h : By (c :: t)) : By t := fun x hx => h x (List.mem_cons_of_mem _ hx)
theorem By.head {c : Int} {t : List Int} (h : By (c :: t)) : 0 ≤ c ∧ c ≤ 255 := h c List.mem_cons_self
theorem By.app {a b : List Int} (ha : By a) (hb : By b) : By (a ++ b) := fun x hx => (List.mem_append.1 hx).elim (ha x) (hb x)
theorem By.take {a : List Int} (ha : By a) (n : Nat) : By (a.take n) := fun x hx => ha x (List.mem_of_mem_take hx)
theorem By.drop {a : List Int} (ha : By a) (n : Nat) : By (a.drop n) := fun x hx => ha x (List.mem_of_mem_drop hx)

theorem S_app (a b : List Int) : S (a ++ b) = S a + S b := by
  induction a with
  | nil => simp [S]
  | cons c t ih => simp only [List.cons_append, S, ih]; omega

theorem W_app (a b : List Int) : W (a ++ b) = W a + (b.length : Int) * S a + W b := by
  induction a with
  | nil => simp [S, W]
  | cons c t ih =>
    simp only [List.cons_append, S, W, ih, List.length_append]
    have : ((t.length + b.length : Nat) : Int) + 1 = ((t.length : Int) + 1) + b.length := by omega
    rw [this, Int.add_mul, Int.mul_add]
    omega

/-- The sum that the code makes: a state of two numbers below 65521. -/
def M (a : Int) (b : List Int) : Int := ((a / 65536 + b.length * (a % 65536) + W b) % 65521) * 65536 + (a % 65536 + S b) % 65521

theorem M_lo (a : Int) (b : List Int) : M a b % 65536 = (a % 65536 + S b) % 65521 := by
  unfold M
  have h1 := Int.emod_nonneg (a % 65536 + S b) (b := 65521) (by decide)
  have h2 := Int.emod_lt_of_pos (a % 65536 + S b) (b := 65521) (by decide)
  omega
theorem M_hi (a : Int) (b : List Int) : M a b / 65536 = (a / 65536 + b.length * (a % 65536) + W b) % 65521 := by
  unfold M
  have h1 := Int.emod_nonneg (a % 65536 + S b) (b := 65521) (by decide)
  have h2 := Int.emod_lt_of_pos (a % 65536 + S b) (b := 65521) (by decide)
  omega
theorem M_range (a : Int) (b : List Int) : 0 ≤ M a b ∧ M a b < 4294967296 := by
  unfold M
  have h1 := Int.emod_nonneg (a % 65536 + S b) (b := 65521) (by decide)
  have h2 := Int.emod_lt_of_pos (a % 65536 + S b) (b := 65521) (by decide)
  have h3 := Int.emod_nonneg (a / 65536 + b.length * (a % 65536) + W b) (b := 65521) (by decide)
  have h4 := Int.emod_lt_of_pos (a / 65536 + b.length * (a % 65536) + W b) (b := 65521) (by decide)
  omega

theorem mod_mul (n x : Int) : (n * (x % 65521)) % 65521 = (n * x) % 65521 := by rw [Int.mul_emod, Int.emod_emod_of_dvd _ (by decide : (65521 : Int) ∣ 65521), ← Int.mul_emod]

theorem M_app (a : Int) (b c : List Int) : M (M a b) c = M a (b ++ c) := by
  have hl := M_lo a b
  have hh := M_hi a b
  have e : M (M a b) c = ((M a b / 65536 + c.length * (M a b % 65536) + W c) % 65521) * 65536 + (M a b % 65536 + S c) % 65521 := rfl
  rw [e, hl, hh]
  unfold M
  rw [W_app, S_app, List.length_append]
  have m := mod_mul c.length (a % 65536 + S b)
  have d1 : (c.length : Int) * (a % 65536 + S b) = c.length * (a % 65536) + c.length * S b := by rw [Int.mul_add]
  have d2 : ((b.length + c.length : Nat) : Int) * (a % 65536) = b.length * (a % 65536) + c.length * (a % 65536) := by rw [Int.natCast_add, Int.add_mul]
  rw [d2]
  rw [d1] at m
  generalize (c.length : Int) * ((a % 65536 + S b) % 65521) = u at *
  generalize (b.length : Int) * (a % 65536) = v at *
  generalize (c.length : Int) * (a % 65536) = z at *
  generalize (c.length : Int) * S b = y at *
  generalize S b = sb at *
  generalize S c = sc at *
  generalize W b = wb at *
  generalize W c = wc at *
  congr 1
  · congr 1
    omega
  · omega

theorem S_bound {b : List Int} (h : By b) : 0 ≤ S b ∧ S b ≤ 255 * b.length := by
  induction b with
  | nil => simp [S]
  | cons c t ih =>
    have := ih h.tail
    have := h.head
    simp only [S, List.length_cons]
    omega

theorem S_set (b : List Int) (k : Nat) (c : Int) (hk : k < b.length) : S (b.set k c) = S b - b.getD k 0 + c := by
  induction b generalizing k with
  | nil => simp at hk
  | cons x t ih =>
    cases k with
    | zero => simp [S]; omega
    | succ k =>
      have := ih k (by simpa using hk)
      simp [S] at this ⊢
      omega

theorem W_set (b : List Int) (k : Nat) (c : Int) (hk : k < b.length) : W (b.set k c) = W b + ((b.length : Int) - k) * (c - b.getD k 0) := by
  induction b generalizing k with
  | nil => simp at hk
  | cons x t ih =>
    cases k with
    | zero =>
      simp only [List.set_cons_zero, W, List.length_cons, List.getD_cons_zero]
      have : (((t.length + 1 : Nat) : Int) - ((0 : Nat) : Int)) = (t.length : Int) + 1 := by omega
      rw [this, Int.mul_sub]
      omega
    | succ k =>
      have := ih k (by simpa using hk)
      simp only [List.set_cons_succ, W, List.length_set, this, List.length_cons, List.getD_cons_succ]
      have : (((t.length + 1 : Nat) : Int) - ((k + 1 : Nat) : Int)) = (t.length : Int) - k := by omega
      rw [this]
      omega

/-- One byte another one: the sum is another one. -/
theorem M_set {b : List Int} (h : By b) {k : Nat} (hk : k < b.length) {c : Int} (h0 : 0 ≤ c) (h1 : c ≤ 255) : M 1 (b.set k c) = M 1 b ↔ c = b.getD k 0 := by
  have hb : 0 ≤ b.getD k 0 ∧ b.getD k 0 ≤ 255 := by
    rw [List.getD_eq_getElem?_getD, List.getElem?_eq_getElem hk]
    exact h _ (List.getElem_mem hk)
  constructor
  · intro e
    have l1 := M_lo 1 (b.set k c)
    have l2 := M_lo 1 b
    rw [e, S_set b k c hk] at l1
    omega
  · rintro rfl
    congr 1
    rw [List.getD_eq_getElem?_getD, List.getElem?_eq_getElem hk]
    simp

/-- Two neighbours change places: the sum is another one, but if they are alike. -/
theorem M_swap {b : List Int} (h : By b) {k : Nat} (hk : k + 1 < b.length) : M 1 ((b.set k (b.getD (k + 1) 0)).set (k + 1) (b.getD k 0)) = M 1 b ↔ b.getD k 0 = b.getD (k + 1) 0 := by
  have hb : ∀ j, j < b.length → 0 ≤ b.getD j 0 ∧ b.getD j 0 ≤ 255 := by
    intro j hj
    rw [List.getD_eq_getElem?_getD, List.getElem?_eq_getElem hj]
    exact h _ (List.getElem_mem hj)
  have h0 := hb k (by omega)
  have h1 := hb (k + 1) hk
  have g : (b.set k (b.getD (k + 1) 0)).getD (k + 1) 0 = b.getD (k + 1) 0 := by
    rw [List.getD_eq_getElem?_getD, List.getElem?_set_ne (by omega), ← List.getD_eq_getElem?_getD]
  have s := S_set (b.set k (b.getD (k + 1) 0)) (k + 1) (b.getD k 0) (by simpa using hk)
  rw [S_set b k _ (by omega), g] at s
  have w := W_set (b.set k (b.getD (k + 1) 0)) (k + 1) (b.getD k 0) (by simpa using hk)
  rw [W_set b k _ (by omega), g, List.length_set] at w
  generalize b.getD k 0 = x at *
  generalize b.getD (k + 1) 0 = y at *
  have e1 : ((b.length : Int) - k) * (y - x) + ((b.length : Int) - ((k + 1 : Nat) : Int)) * (x - y) = y - x := by
    have : x - y = -(y - x) := by omega
    rw [this, Int.mul_neg, ← Int.neg_mul, ← Int.add_mul]
    have : ((b.length : Int) - k) + -((b.length : Int) - ((k + 1 : Nat) : Int)) = 1 := by omega
    rw [this]
    omega
  have w' : W ((b.set k y).set (k + 1) x) = W b + (y - x) := by omega
  constructor
  · intro e
    have l1 := M_hi 1 ((b.set k y).set (k + 1) x)
    have l2 := M_hi 1 b
    rw [e, w', List.length_set, List.length_set] at l1
    omega
  · rintro rfl
    unfold M
    rw [s, w', List.length_set, List.length_set]
    congr 2
    · omega
    · omega
end Go.Proofs.Ytlnndkhnabooeaa.Math
/- What the functions of sums come to, in the plain words of Math: no memory. -/
namespace Go.Proofs.Ytlnndkhnabooeaa.Q
open Go.RowKit Go.Proofs.YtlnndkhnabooeaaW.PrintWords Go.Proofs.YtlnndkhnabooeaaW.PrintLast Go.Proofs.YtlnndkhnabooeaaW.PrintMore
open Go.Proofs.Ytlnndkhnabooeaa.Math
set_option linter.unusedVariables false

theorem rd_drop {l : List Int} {i : Nat} {c : Int} {t : List Int} (h : l.drop i = c :: t) : rd l i = c ∧ i < l.length ∧ l.drop (i + 1) = t := by
  have hi : i < l.length := by
    rcases Nat.lt_or_ge i l.length with h1 | h1
    · exact h1
    · rw [List.drop_of_length_le h1] at h; cases h
  have hd := List.drop_eq_getElem_cons hi
  rw [h] at hd
  injection hd with h1 h2
  refine ⟨?_, hi, h2.symm⟩
  unfold rd
  rw [Int.toNat_natCast, List.getD_eq_getElem?_getD, List.getElem?_eq_getElem hi]
  exact h1.symm

theorem bits_or (x y : Nat) (hx : x < 65536) (hy : y < 65536) : Go.bits .or .u32 ((x : Int) * 65536) (y : Int) = (x : Int) * 65536 + y := by
  have e : ((x : Int) * 65536) = ((x * 65536 : Nat) : Int) := by omega
  rw [e]
  have h : ∀ a : Nat, a < 4294967296 → (BitVec.ofInt 32 (a : Int)).toNat = a := fun a ha => by
    rw [BitVec.ofInt_natCast, BitVec.toNat_ofNat]; exact Nat.mod_eq_of_lt (by omega)
  show IntKind.u32.wrap ((BitVec.ofInt 32 ((x * 65536 : Nat) : Int) ||| BitVec.ofInt 32 (y : Int)).toNat : Int) = _
  rw [BitVec.toNat_or, h _ (by omega), h _ (by omega)]
  have e2 : x * 65536 ||| y = x * 65536 + y := by
    have := Nat.two_pow_add_eq_or_of_lt (i := 16) (b := y) (by omega) x
    rw [show x * 65536 = 2 ^ 16 * x by omega]
    exact this.symm
  rw [e2]
  simp [IntKind.wrap, IntKind.signed, IntKind.bits]
  omega

theorem more_end (b : List Int) (i : Nat) (lo hi : Int) (k : Nat) (hi' : b.length ≤ i) (h1 : 0 ≤ lo) (h2 : lo < 65521) (h3 : 0 ≤ hi) (h4 : hi < 65521) : check_More.l0 (k + 1) lo hi b (b.length : Int) (i : Int) = some (hi * 65536 + lo) := by
  simp only [check_More.l0]
  rw [if_neg (by omega)]
  obtain ⟨x, rfl⟩ := Int.eq_ofNat_of_zero_le h1
  obtain ⟨y, rfl⟩ := Int.eq_ofNat_of_zero_le h3
  rw [show ((y : Int) * 65536) % 4294967296 = (y : Int) * 65536 by omega, bits_or y x (by omega) (by omega)]

theorem wrap_i (i n : Nat) (h : i < n) (hn : n ≤ 140737488351232) : wrap64 ((i : Int) + 1) = ((i + 1 : Nat) : Int) := by unfold wrap64; omega

theorem more_step (b : List Int) (i : Nat) (c lo hi : Int) (k : Nat) (hn : b.length ≤ 140737488351232) (hi' : i < b.length) (e1 : rd b i = c) (hc : 0 ≤ c ∧ c ≤ 255) (h1 : 0 ≤ lo) (h2 : lo < 65521) (h3 : 0 ≤ hi) (h4 : hi < 65521) :
    check_More.l0 (k + 1) lo hi b (b.length : Int) (i : Int) = check_More.l0 k ((lo + c) % 65521) ((hi + lo + c) % 65521) b (b.length : Int) ((i + 1 : Nat) : Int) := by
  simp only [check_More.l0]
  rw [if_pos (by omega), if_pos (by omega), if_pos (by omega), e1, wrap_i i b.length hi' hn]
  have e4 : ((lo + c % 4294967296) % 4294967296) % 65521 = (lo + c) % 65521 := by omega
  rw [e4]
  have e5 : ((hi + (lo + c) % 65521) % 4294967296) % 65521 = (hi + lo + c) % 65521 := by omega
  rw [e5]

theorem more_sum (hi lo c : Int) (t : List Int) : (((hi + lo + c) % 65521 + t.length * ((lo + c) % 65521) + W t) % 65521) * 65536 + ((lo + c) % 65521 + S t) % 65521 = ((hi + (c :: t).length * lo + W (c :: t)) % 65521) * 65536 + (lo + S (c :: t)) % 65521 := by
  have m := mod_mul t.length (lo + c)
  have d1 : (t.length : Int) * (lo + c) = t.length * lo + t.length * c := by rw [Int.mul_add]
  rw [d1] at m
  have d2 : (((c :: t).length : Nat) : Int) * lo = t.length * lo + lo := by rw [List.length_cons, Int.natCast_add, Int.add_mul]; omega
  have d3 : ((t.length : Int) + 1) * c = t.length * c + c := by rw [Int.add_mul]; omega
  simp only [S, W]
  rw [d2, d3]
  generalize (t.length : Int) * ((lo + c) % 65521) = u at *
  generalize (t.length : Int) * lo = v at *
  generalize (t.length : Int) * c = z at *
  generalize W t = wt at *
  generalize S t = st at *
  congr 1
  · congr 1
    omega
  · omega

theorem more_l0 (b : List Int) (hn : b.length ≤ 140737488351232) (t : List Int) : ∀ (i : Nat) (lo hi : Int) (k : Nat), b.drop i = t → By t → 0 ≤ lo → lo < 65521 → 0 ≤ hi → hi < 65521 → t.length < k →
    check_More.l0 k lo hi b (b.length : Int) (i : Int) = some (((hi + t.length * lo + W t) % 65521) * 65536 + (lo + S t) % 65521) := by
  induction t with
  | nil =>
    intro i lo hi k hd hb h1 h2 h3 h4 hk
    obtain ⟨k, rfl⟩ : ∃ m, k = m + 1 := ⟨k - 1, by omega⟩
    have hi' : b.length ≤ i := by
      have := congrArg List.length hd
      simp at this
      omega
    rw [more_end b i lo hi k hi' h1 h2 h3 h4]
    congr 1
    simp only [S, W, List.length_nil]
    omega
  | cons c t ih =>
    intro i lo hi k hd hb h1 h2 h3 h4 hk
    obtain ⟨k, rfl⟩ : ∃ m, k = m + 1 := ⟨k - 1, by omega⟩
    obtain ⟨e1, e2, e3⟩ := rd_drop hd
    rw [more_step b i c lo hi k hn e2 e1 hb.head h1 h2 h3 h4, ih (i + 1) _ _ k e3 hb.tail (by omega) (by omega) (by omega) (by omega) (by simpa using hk), more_sum]

theorem more_is (a : Int) (b : List Int) (h0 : 0 ≤ a) (h1 : a < 4294967296) (hb : By b) (hn : b.length ≤ 140737488351232) (k : Nat) (hk : b.length < k) : check_More.f k a b = some (M a b) := by
  unfold check_More.f
  rw [Int.tmod_eq_emod_of_nonneg h0, Int.tmod_eq_emod_of_nonneg (by omega), Int.tdiv_eq_ediv_of_nonneg h0]
  have := more_l0 b hn b 0 (a % 65536 % 65521) ((a / 65536) % 4294967296 % 65521) k rfl hb (by omega) (by omega) (by omega) (by omega) hk
  rw [show ((0 : Nat) : Int) = 0 from rfl] at this
  rw [this]
  unfold M
  have m := mod_mul b.length (a % 65536)
  generalize (b.length : Int) * (a % 65536 % 65521) = u at *
  generalize (b.length : Int) * (a % 65536) = v at *
  generalize W b = wb at *
  generalize S b = sb at *
  congr 1
  congr 1
  · congr 1
    omega
  · omega

/-- All lists one behind the other. -/
theorem rd1_drop {l : List (List Int)} {i : Nat} {c : List Int} {t : List (List Int)} (h : l.drop i = c :: t) : rd_L1 l i = c ∧ i < l.length ∧ l.drop (i + 1) = t := by
  have hi : i < l.length := by
    rcases Nat.lt_or_ge i l.length with h1 | h1
    · exact h1
    · rw [List.drop_of_length_le h1] at h; cases h
  have hd := List.drop_eq_getElem_cons hi
  rw [h] at hd
  injection hd with h1 h2
  refine ⟨?_, hi, h2.symm⟩
  unfold rd_L1
  rw [Int.toNat_natCast, List.getD_eq_getElem?_getD, List.getElem?_eq_getElem hi]
  exact h1.symm

/-- Each of them bytes, none too long. -/
def ByAll (l : List (List Int)) : Prop := ∀ c ∈ l, By c ∧ c.length ≤ 140737488351232

theorem sum_l0 (l : List (List Int)) (hn : l.length ≤ 140737488351232) (t : List (List Int)) : ∀ (i : Nat) (x : Int) (k : Nat), l.drop i = t → ByAll t → 0 ≤ x → x < 4294967296 → t.length + t.flatten.length < k →
    check_Sum.l0 k x l (l.length : Int) (i : Int) = some (if t = [] then x else M x t.flatten) := by
  induction t with
  | nil =>
    intro i x k hd hb h0 h1 hk
    obtain ⟨k, rfl⟩ : ∃ m, k = m + 1 := ⟨k - 1, by omega⟩
    have hi' : l.length ≤ i := by
      have := congrArg List.length hd
      simp at this
      omega
    simp only [check_Sum.l0]
    rw [if_neg (by omega)]
    simp
  | cons c t ih =>
    intro i x k hd hb h0 h1 hk
    obtain ⟨k, rfl⟩ : ∃ m, k = m + 1 := ⟨k - 1, by omega⟩
    obtain ⟨e1, e2, e3⟩ := rd1_drop hd
    obtain ⟨hc, hcl⟩ := hb c List.mem_cons_self
    simp only [List.length_cons, List.flatten_cons, List.length_append] at hk
    simp only [check_Sum.l0]
    rw [if_pos (by omega), if_pos (by omega), if_pos (by omega), e1, more_is x c h0 h1 hc hcl k (by omega), wrap_i i l.length e2 hn]
    simp only [Option.bind_some]
    rw [ih (i + 1) (M x c) k e3 (fun y hy => hb y (List.mem_cons_of_mem _ hy)) (M_range x c).1 (M_range x c).2 (by omega)]
    by_cases ht : t = []
    · subst ht; simp
    · simp [ht, M_app]

theorem M_one_nil : M 1 [] = 1 := by decide

theorem sum_is (l : List (List Int)) (hn : l.length ≤ 140737488351232) (hb : ByAll l) (k : Nat) (hk : l.length + l.flatten.length < k) : check_Sum.f k l = some (M 1 l.flatten) := by
  unfold check_Sum.f
  have h := sum_l0 l hn l 0 1 k rfl hb (by omega) (by omega) hk
  rw [show ((0 : Nat) : Int) = 0 from rfl] at h
  rw [h]
  by_cases hl : l = []
  · rw [if_pos hl, hl]; rfl
  · rw [if_neg hl]
end Go.Proofs.Ytlnndkhnabooeaa.Q
/- What the document's sums come to, and which lists are too much: no memory. -/
namespace Go.Proofs.Ytlnndkhnabooeaa.Q
open Go.RowKit Go.Proofs.YtlnndkhnabooeaaW.PrintWords Go.Proofs.YtlnndkhnabooeaaW.PrintLast Go.Proofs.YtlnndkhnabooeaaW.PrintMore
open Go.Proofs.Ytlnndkhnabooeaa.Math
set_option linter.unusedVariables false

theorem u64_in (z : Int) (h0 : 0 ≤ z) (h1 : z < 18446744073709551616) : IntKind.u64.wrap z = z := by
  simp [IntKind.wrap, IntKind.signed, IntKind.bits]; omega

theorem rmore_end (b : List Int) (i : Nat) (x y : Int) (k : Nat) (hi : b.length ≤ i) (h1 : 0 ≤ x) (h2 : 0 ≤ y) : sluicegateref03_More.l0 (k + 1) b x y (i : Int) = some ((y % 65521) * 65536 + x % 65521) := by
  simp only [sluicegateref03_More.l0]
  rw [if_neg (by omega), Int.tmod_eq_emod_of_nonneg h1, Int.tmod_eq_emod_of_nonneg h2, u64_in (y % 65521 * 65536) (by omega) (by omega), u64_in _ (by omega) (by omega)]
  congr 1
  omega
theorem rmore_step (b : List Int) (i : Nat) (c x y : Int) (k : Nat) (hn : b.length ≤ 20000) (hi : i < b.length) (e1 : rd b i = c) (hc : 0 ≤ c ∧ c ≤ 255) (h1 : 0 ≤ x) (h2 : x ≤ 65535 + 255 * i) (h3 : 0 ≤ y) (h4 : y ≤ 65535 + 6000000 * i) :
    sluicegateref03_More.l0 (k + 1) b x y (i : Int) = sluicegateref03_More.l0 k b (x + c) (y + (x + c)) ((i + 1 : Nat) : Int) := by
  simp only [sluicegateref03_More.l0]
  rw [if_pos (by omega), if_pos (by omega), e1, wrap_i i b.length hi (by omega), u64_in c (by omega) (by omega), u64_in (x + c) (by omega) (by omega), u64_in (y + (x + c)) (by omega) (by omega)]
theorem rmore_sum (x y c : Int) (t : List Int) : (y + (x + c)) + t.length * (x + c) + W t = y + (c :: t).length * x + W (c :: t) := by
  have d1 : (t.length : Int) * (x + c) = t.length * x + t.length * c := by rw [Int.mul_add]
  have d2 : (((c :: t).length : Nat) : Int) * x = t.length * x + x := by rw [List.length_cons, Int.natCast_add, Int.add_mul]; omega
  have d3 : ((t.length : Int) + 1) * c = t.length * c + c := by rw [Int.add_mul]; omega
  simp only [W]
  rw [d1, d2, d3]
  omega
theorem rmore_l0 (b : List Int) (hn : b.length ≤ 20000) (t : List Int) : ∀ (i : Nat) (x y : Int) (k : Nat), b.drop i = t → i ≤ b.length → By t → 0 ≤ x → x ≤ 65535 + 255 * i → 0 ≤ y → y ≤ 65535 + 6000000 * i → t.length < k →
    sluicegateref03_More.l0 k b x y (i : Int) = some (((y + t.length * x + W t) % 65521) * 65536 + (x + S t) % 65521) := by
  induction t with
  | nil =>
    intro i x y k hd hi hb h1 h2 h3 h4 hk
    obtain ⟨k, rfl⟩ : ∃ m, k = m + 1 := ⟨k - 1, by omega⟩
    have hi' : b.length ≤ i := by
      have := congrArg List.length hd
      simp at this
      omega
    rw [rmore_end b i x y k hi' h1 h3]
    simp [S, W]
  | cons c t ih =>
    intro i x y k hd hi hb h1 h2 h3 h4 hk
    obtain ⟨k, rfl⟩ : ∃ m, k = m + 1 := ⟨k - 1, by omega⟩
    obtain ⟨e1, e2, e3⟩ := rd_drop hd
    have hc := hb.head
    rw [rmore_step b i c x y k hn e2 e1 hc h1 h2 h3 h4, ih (i + 1) _ _ k e3 (by omega) hb.tail (by omega) (by omega) (by omega) (by omega) (by simpa using hk), rmore_sum]
    simp only [S]
    congr 3
    omega
theorem rmore_is (a : Int) (b : List Int) (h0 : 0 ≤ a) (h1 : a < 4294967296) (hb : By b) (hn : b.length ≤ 20000) (k : Nat) (hk : b.length < k) : sluicegateref03_More.f k a b = some (M a b) := by
  unfold sluicegateref03_More.f
  rw [u64_in a h0 (by omega), Int.tmod_eq_emod_of_nonneg h0, Int.tdiv_eq_ediv_of_nonneg h0, u64_in (a / 65536) (by omega) (by omega)]
  exact rmore_l0 b hn b 0 (a % 65536) (a / 65536) k rfl (by omega) hb (by omega) (by omega) (by omega) (by omega) hk
theorem rsum_is (b : List Int) (hb : By b) (hn : b.length ≤ 20000) (k : Nat) (hk : b.length < k) : sluicegateref03_Sum.f k b = some (M 1 b) := by
  unfold sluicegateref03_Sum.f
  rw [rmore_is 1 b (by omega) (by omega) hb hn k hk]
  rfl

end Go.Proofs.Ytlnndkhnabooeaa.Q
