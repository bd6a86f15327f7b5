/- What the functions of sums come to, in the plain words of Math: no memory. -/
import Derived.Test.YtnoanllncohkdaaQ1
import Derived.Test.YtnoanllncohkdaaMath
namespace Go.Proofs.Ytnoanllncohkdaa.Q
open Go.RowKit Go.Proofs.YtnoanllncohkdaaW.PrintWords Go.Proofs.YtnoanllncohkdaaW.PrintLast Go.Proofs.YtnoanllncohkdaaW.PrintMore
open Go.Proofs.Ytnoanllncohkdaa.Math
set_option linter.unusedVariables false

theorem rd_drop {l : List Int} {i : Nat} {c : Int} {t : List Int} (h : l.drop i = c :: t) : rd l i = c ∧ i < l.length ∧ l.drop (i + 1) = t := by
  have hi : i < l.length := by
    rcases Nat.lt_or_ge i l.length with h1 | h1
    · exact h1
    · rw [List.drop_of_length_le h1] at h; cases h
  have hd := List.drop_eq_getElem_cons hi
  rw [h] at hd
  injection hd with h1 h2
  refine ⟨?_, hi, h2.symm⟩
  unfold rd
  rw [Int.toNat_natCast, List.getD_eq_getElem?_getD, List.getElem?_eq_getElem hi]
  exact h1.symm

theorem bits_or (x y : Nat) (hx : x < 65536) (hy : y < 65536) : Go.bits .or .u32 ((x : Int) * 65536) (y : Int) = (x : Int) * 65536 + y := by
  have e : ((x : Int) * 65536) = ((x * 65536 : Nat) : Int) := by omega
  rw [e]
  have h : ∀ a : Nat, a < 4294967296 → (BitVec.ofInt 32 (a : Int)).toNat = a := fun a ha => by
    rw [BitVec.ofInt_natCast, BitVec.toNat_ofNat]; exact Nat.mod_eq_of_lt (by omega)
  show IntKind.u32.wrap ((BitVec.ofInt 32 ((x * 65536 : Nat) : Int) ||| BitVec.ofInt 32 (y : Int)).toNat : Int) = _
  rw [BitVec.toNat_or, h _ (by omega), h _ (by omega)]
  have e2 : x * 65536 ||| y = x * 65536 + y := by
    have := Nat.two_pow_add_eq_or_of_lt (i := 16) (b := y) (by omega) x
    rw [show x * 65536 = 2 ^ 16 * x by omega]
    exact this.symm
  rw [e2]
  simp [IntKind.wrap, IntKind.signed, IntKind.bits]
  omega

theorem more_end (b : List Int) (i : Nat) (lo hi : Int) (k : Nat) (hi' : b.length ≤ i) (h1 : 0 ≤ lo) (h2 : lo < 65521) (h3 : 0 ≤ hi) (h4 : hi < 65521) : check_More.l0 (k + 1) lo hi b (b.length : Int) (i : Int) = some (hi * 65536 + lo) := by
  simp only [check_More.l0]
  rw [if_neg (by omega)]
  obtain ⟨x, rfl⟩ := Int.eq_ofNat_of_zero_le h1
  obtain ⟨y, rfl⟩ := Int.eq_ofNat_of_zero_le h3
  rw [show ((y : Int) * 65536) % 4294967296 = (y : Int) * 65536 by omega, bits_or y x (by omega) (by omega)]

theorem wrap_i (i n : Nat) (h : i < n) (hn : n ≤ 140737488351232) : wrap64 ((i : Int) + 1) = ((i + 1 : Nat) : Int) := by unfold wrap64; omega

theorem more_step (b : List Int) (i : Nat) (c lo hi : Int) (k : Nat) (hn : b.length ≤ 140737488351232) (hi' : i < b.length) (e1 : rd b i = c) (hc : 0 ≤ c ∧ c ≤ 255) (h1 : 0 ≤ lo) (h2 : lo < 65521) (h3 : 0 ≤ hi) (h4 : hi < 65521) :
    check_More.l0 (k + 1) lo hi b (b.length : Int) (i : Int) = check_More.l0 k ((lo + c) % 65521) ((hi + lo + c) % 65521) b (b.length : Int) ((i + 1 : Nat) : Int) := by
  simp only [check_More.l0]
  rw [if_pos (by omega), if_pos (by omega), if_pos (by omega), e1, wrap_i i b.length hi' hn]
  have e4 : ((lo + c % 4294967296) % 4294967296) % 65521 = (lo + c) % 65521 := by omega
  rw [e4]
  have e5 : ((hi + (lo + c) % 65521) % 4294967296) % 65521 = (hi + lo + c) % 65521 := by omega
  rw [e5]

theorem more_sum (hi lo c : Int) (t : List Int) : (((hi + lo + c) % 65521 + t.length * ((lo + c) % 65521) + W t) % 65521) * 65536 + ((lo + c) % 65521 + S t) % 65521 = ((hi + (c :: t).length * lo + W (c :: t)) % 65521) * 65536 + (lo + S (c :: t)) % 65521 := by
  have m := mod_mul t.length (lo + c)
  have d1 : (t.length : Int) * (lo + c) = t.length * lo + t.length * c := by rw [Int.mul_add]
  rw [d1] at m
  have d2 : (((c :: t).length : Nat) : Int) * lo = t.length * lo + lo := by rw [List.length_cons, Int.natCast_add, Int.add_mul]; omega
  have d3 : ((t.length : Int) + 1) * c = t.length * c + c := by rw [Int.add_mul]; omega
  simp only [S, W]
  rw [d2, d3]
  generalize (t.length : Int) * ((lo + c) % 65521) = u at *
  generalize (t.length : Int) * lo = v at *
  generalize (t.length : Int) * c = z at *
  generalize W t = wt at *
  generalize S t = st at *
  congr 1
  · congr 1
    omega
  · omega

theorem more_l0 (b : List Int) (hn : b.length ≤ 140737488351232) (t : List Int) : ∀ (i : Nat) (lo hi : Int) (k : Nat), b.drop i = t → By t → 0 ≤ lo → lo < 65521 → 0 ≤ hi → hi < 65521 → t.length < k →
    check_More.l0 k lo hi b (b.length : Int) (i : Int) = some (((hi + t.length * lo + W t) % 65521) * 65536 + (lo + S t) % 65521) := by
  induction t with
  | nil =>
    intro i lo hi k hd hb h1 h2 h3 h4 hk
    obtain ⟨k, rfl⟩ : ∃ m, k = m + 1 := ⟨k - 1, by omega⟩
    have hi' : b.length ≤ i := by
      have := congrArg List.length hd
      simp at this
      omega
    rw [more_end b i lo hi k hi' h1 h2 h3 h4]
    congr 1
    simp only [S, W, List.length_nil]
    omega
  | cons c t ih =>
    intro i lo hi k hd hb h1 h2 h3 h4 hk
    obtain ⟨k, rfl⟩ : ∃ m, k = m + 1 := ⟨k - 1, by omega⟩
    obtain ⟨e1, e2, e3⟩ := rd_drop hd
    rw [more_step b i c lo hi k hn e2 e1 hb.head h1 h2 h3 h4, ih (i + 1) _ _ k e3 hb.tail (by omega) (by omega) (by omega) (by omega) (by simpa using hk), more_sum]

theorem more_is (a : Int) (b : List Int) (h0 : 0 ≤ a) (h1 : a < 4294967296) (hb : By b) (hn : b.length ≤ 140737488351232) (k : Nat) (hk : b.length < k) : check_More.f k a b = some (M a b) := by
  unfold check_More.f
  rw [Int.tmod_eq_emod_of_nonneg h0, Int.tmod_eq_emod_of_nonneg (by omega), Int.tdiv_eq_ediv_of_nonneg h0]
  have := more_l0 b hn b 0 (a % 65536 % 65521) ((a / 65536) % 4294967296 % 65521) k rfl hb (by omega) (by omega) (by omega) (by omega) hk
  rw [show ((0 : Nat) : Int) = 0 from rfl] at this
  rw [this]
  unfold M
  have m := mod_mul b.length (a % 65536)
  generalize (b.length : Int) * (a % 65536 % 65521) = u at *
  generalize (b.length : Int) * (a % 65536) = v at *
  generalize W b = wb at *
  generalize S b = sb at *
  congr 1
  congr 1
  · congr 1
    omega
  · omega

/-- All lists one behind the other. -/
theorem rd1_drop {l : List (List Int)} {i : Nat} {c : List Int} {t : List (List Int)} (h : l.drop i = c :: t) : rd_L1 l i = c ∧ i < l.length ∧ l.drop (i + 1) = t := by
  have hi : i < l.length := by
    rcases Nat.lt_or_ge i l.length with h1 | h1
    · exact h1
    · rw [List.drop_of_length_le h1] at h; cases h
  have hd := List.drop_eq_getElem_cons hi
  rw [h] at hd
  injection hd with h1 h2
  refine ⟨?_, hi, h2.symm⟩
  unfold rd_L1
  rw [Int.toNat_natCast, List.getD_eq_getElem?_getD, List.getElem?_eq_getElem hi]
  exact h1.symm

/-- Each of them bytes, none too long. -/
def Bys (l : List (List Int)) : Prop := ∀ c ∈ l, By c ∧ c.length ≤ 140737488351232

theorem sum_l0 (l : List (List Int)) (hn : l.length ≤ 140737488351232) (t : List (List Int)) : ∀ (i : Nat) (x : Int) (k : Nat), l.drop i = t → Bys t → 0 ≤ x → x < 4294967296 → t.length + t.flatten.length < k →
    check_Sum.l0 k x l (l.length : Int) (i : Int) = some (if t = [] then x else M x t.flatten) := by
  induction t with
  | nil =>
    intro i x k hd hb h0 h1 hk
    obtain ⟨k, rfl⟩ : ∃ m, k = m + 1 := ⟨k - 1, by omega⟩
    have hi' : l.length ≤ i := by
      have := congrArg List.length hd
      simp at this
      omega
    simp only [check_Sum.l0]
    rw [if_neg (by omega)]
    simp
  | cons c t ih =>
    intro i x k hd hb h0 h1 hk
    obtain ⟨k, rfl⟩ : ∃ m, k = m + 1 := ⟨k - 1, by omega⟩
    obtain ⟨e1, e2, e3⟩ := rd1_drop hd
    obtain ⟨hc, hcl⟩ := hb c List.mem_cons_self
    simp only [List.length_cons, List.flatten_cons, List.length_append] at hk
    simp only [check_Sum.l0]
    rw [if_pos (by omega), if_pos (by omega), if_pos (by omega), e1, more_is x c h0 h1 hc hcl k (by omega), wrap_i i l.length e2 hn]
    simp only [Option.bind_some]
    rw [ih (i + 1) (M x c) k e3 (fun y hy => hb y (List.mem_cons_of_mem _ hy)) (M_range x c).1 (M_range x c).2 (by omega)]
    by_cases ht : t = []
    · subst ht; simp
    · simp [ht, M_app]

theorem M_one_nil : M 1 [] = 1 := by decide

theorem sum_is (l : List (List Int)) (hn : l.length ≤ 140737488351232) (hb : Bys l) (k : Nat) (hk : l.length + l.flatten.length < k) : check_Sum.f k l = some (M 1 l.flatten) := by
  unfold check_Sum.f
  have h := sum_l0 l hn l 0 1 k rfl hb (by omega) (by omega) hk
  rw [show ((0 : Nat) : Int) = 0 from rfl] at h
  rw [h]
  by_cases hl : l = []
  · rw [if_pos hl, hl]; rfl
  · rw [if_neg hl]

theorem right_is (b : List Int) (x : Int) (hb : By b) (hn : b.length ≤ 140737488351232) (k : Nat) (hk : 1 + b.length < k) : check_Right.f k b x = some (M 1 b == x) := by
  unfold check_Right.f
  rw [sum_is [b] (by simp) (fun c hc => by rw [List.mem_singleton.1 hc]; exact ⟨hb, hn⟩) k (by simpa using hk)]
  simp
end Go.Proofs.Ytnoanllncohkdaa.Q
