/- What the document's sums come to, and which lists are too much: no memory. -/
import Derived.Test.YtnoanllncohkdaaFns
import Derived.Test.YtnoanllncohkdaaQ2
namespace Go.Proofs.Ytnoanllncohkdaa.Q
open Go.RowKit Go.Proofs.YtnoanllncohkdaaW.PrintWords Go.Proofs.YtnoanllncohkdaaW.PrintLast Go.Proofs.YtnoanllncohkdaaW.PrintMore
open Go.Proofs.Ytnoanllncohkdaa.Math
set_option linter.unusedVariables false

theorem u64_in (z : Int) (h0 : 0 ≤ z) (h1 : z < 18446744073709551616) : IntKind.u64.wrap z = z := by
  simp [IntKind.wrap, IntKind.signed, IntKind.bits]; omega

theorem rmore_end (b : List Int) (i : Nat) (x y : Int) (k : Nat) (hi : b.length ≤ i) (h1 : 0 ≤ x) (h2 : 0 ≤ y) : sluicegateref03_More.l0 (k + 1) b x y (i : Int) = some ((y % 65521) * 65536 + x % 65521) := by
  simp only [sluicegateref03_More.l0]
  rw [if_neg (by omega), Int.tmod_eq_emod_of_nonneg h1, Int.tmod_eq_emod_of_nonneg h2, u64_in (y % 65521 * 65536) (by omega) (by omega), u64_in _ (by omega) (by omega)]
  congr 1
  omega
theorem rmore_step (b : List Int) (i : Nat) (c x y : Int) (k : Nat) (hn : b.length ≤ 20000) (hi : i < b.length) (e1 : rd b i = c) (hc : 0 ≤ c ∧ c ≤ 255) (h1 : 0 ≤ x) (h2 : x ≤ 65535 + 255 * i) (h3 : 0 ≤ y) (h4 : y ≤ 65535 + 6000000 * i) :
    sluicegateref03_More.l0 (k + 1) b x y (i : Int) = sluicegateref03_More.l0 k b (x + c) (y + (x + c)) ((i + 1 : Nat) : Int) := by
  simp only [sluicegateref03_More.l0]
  rw [if_pos (by omega), if_pos (by omega), e1, wrap_i i b.length hi (by omega), u64_in c (by omega) (by omega), u64_in (x + c) (by omega) (by omega), u64_in (y + (x + c)) (by omega) (by omega)]
theorem rmore_sum (x y c : Int) (t : List Int) : (y + (x + c)) + t.length * (x + c) + W t = y + (c :: t).length * x + W (c :: t) := by
  have d1 : (t.length : Int) * (x + c) = t.length * x + t.length * c := by rw [Int.mul_add]
  have d2 : (((c :: t).length : Nat) : Int) * x = t.length * x + x := by rw [List.length_cons, Int.natCast_add, Int.add_mul]; omega
  have d3 : ((t.length : Int) + 1) * c = t.length * c + c := by rw [Int.add_mul]; omega
  simp only [W]
  rw [d1, d2, d3]
  omega
theorem rmore_l0 (b : List Int) (hn : b.length ≤ 20000) (t : List Int) : ∀ (i : Nat) (x y : Int) (k : Nat), b.drop i = t → i ≤ b.length → By t → 0 ≤ x → x ≤ 65535 + 255 * i → 0 ≤ y → y ≤ 65535 + 6000000 * i → t.length < k →
    sluicegateref03_More.l0 k b x y (i : Int) = some (((y + t.length * x + W t) % 65521) * 65536 + (x + S t) % 65521) := by
  induction t with
  | nil =>
    intro i x y k hd hi hb h1 h2 h3 h4 hk
    obtain ⟨k, rfl⟩ : ∃ m, k = m + 1 := ⟨k - 1, by omega⟩
    have hi' : b.length ≤ i := by
      have := congrArg List.length hd
      simp at this
      omega
    rw [rmore_end b i x y k hi' h1 h3]
    simp [S, W]
  | cons c t ih =>
    intro i x y k hd hi hb h1 h2 h3 h4 hk
    obtain ⟨k, rfl⟩ : ∃ m, k = m + 1 := ⟨k - 1, by omega⟩
    obtain ⟨e1, e2, e3⟩ := rd_drop hd
    have hc := hb.head
    rw [rmore_step b i c x y k hn e2 e1 hc h1 h2 h3 h4, ih (i + 1) _ _ k e3 (by omega) hb.tail (by omega) (by omega) (by omega) (by omega) (by simpa using hk), rmore_sum]
    simp only [S]
    congr 3
    omega
theorem rmore_is (a : Int) (b : List Int) (h0 : 0 ≤ a) (h1 : a < 4294967296) (hb : By b) (hn : b.length ≤ 20000) (k : Nat) (hk : b.length < k) : sluicegateref03_More.f k a b = some (M a b) := by
  unfold sluicegateref03_More.f
  rw [u64_in a h0 (by omega), Int.tmod_eq_emod_of_nonneg h0, Int.tdiv_eq_ediv_of_nonneg h0, u64_in (a / 65536) (by omega) (by omega)]
  exact rmore_l0 b hn b 0 (a % 65536) (a / 65536) k rfl (by omega) hb (by omega) (by omega) (by omega) (by omega) hk
theorem rsum_is (b : List Int) (hb : By b) (hn : b.length ≤ 20000) (k : Nat) (hk : b.length < k) : sluicegateref03_Sum.f k b = some (M 1 b) := by
  unfold sluicegateref03_Sum.f
  rw [rmore_is 1 b (by omega) (by omega) hb hn k hk]
  rfl

theorem join_l0 (l : List (List Int)) (hn : l.length ≤ 60) (t : List (List Int)) : ∀ (i : Nat) (x : List Int) (k : Nat), l.drop i = t → x.length + t.flatten.length ≤ 20000 → t.length < k → sluicegateref03_Join.l0 k l x (i : Int) = some (x ++ t.flatten) := by
  induction t with
  | nil =>
    intro i x k hd hx hk
    obtain ⟨k, rfl⟩ : ∃ m, k = m + 1 := ⟨k - 1, by omega⟩
    have hi' : l.length ≤ i := by
      have := congrArg List.length hd
      simp at this
      omega
    simp only [sluicegateref03_Join.l0]
    rw [if_neg (by omega)]
    simp
  | cons c t ih =>
    intro i x k hd hx hk
    obtain ⟨k, rfl⟩ : ∃ m, k = m + 1 := ⟨k - 1, by omega⟩
    obtain ⟨e1, e2, e3⟩ := rd1_drop hd
    simp only [List.flatten_cons, List.length_append] at hx
    simp only [sluicegateref03_Join.l0]
    rw [if_pos (by omega), if_pos (by omega), e1, if_pos (by omega), wrap_i i l.length e2 (by omega), ih (i + 1) _ k e3 (by rw [List.length_append]; omega) (by simpa using hk)]
    simp
theorem join_is (l : List (List Int)) (hn : l.length ≤ 60) (hx : l.flatten.length ≤ 20000) (k : Nat) (hk : l.length < k) : sluicegateref03_Join.f k l = some l.flatten := by
  unfold sluicegateref03_Join.f
  have := join_l0 l hn l 0 [] k rfl (by simpa using hx) hk
  simpa using this

theorem great_l0 (l : List (List Int)) (hn : l.length ≤ 140737488351232) (hl : ∀ c ∈ l, c.length ≤ 140737488351232) (t : List (List Int)) : ∀ (i : Nat) (x : Int) (k : Nat), l.drop i = t → i ≤ l.length → i ≤ 100 → 0 ≤ x → x ≤ 140737488351232 * i → t.length < k →
    ∃ b, sluicegatelaw03_great.l0 k l x (i : Int) = some b ∧ (b = false → l.length ≤ 60 ∧ x + t.flatten.length ≤ 20000) := by
  induction t with
  | nil =>
    intro i x k hd hi h100 h1 h2 hk
    obtain ⟨k, rfl⟩ : ∃ m, k = m + 1 := ⟨k - 1, by omega⟩
    have hi' : l.length ≤ i := by
      have := congrArg List.length hd
      simp at this
      omega
    simp only [sluicegatelaw03_great.l0]
    rw [if_neg (by omega)]
    by_cases h : (l.length : Int) > 60
    · exact ⟨true, by rw [if_pos h], by simp⟩
    · refine ⟨_, by rw [if_neg h], fun hb => ?_⟩
      have := of_decide_eq_false hb
      simp
      omega
  | cons c t ih =>
    intro i x k hd hi h100 h1 h2 hk
    obtain ⟨k, rfl⟩ : ∃ m, k = m + 1 := ⟨k - 1, by omega⟩
    obtain ⟨e1, e2, e3⟩ := rd1_drop hd
    have hcl := hl c (by
      have : c ∈ l.drop i := by rw [hd]; exact List.mem_cons_self
      exact List.mem_of_mem_drop this)
    simp only [sluicegatelaw03_great.l0]
    rw [if_pos (by omega)]
    by_cases h : (i : Int) < 100
    · have hw : wrap64 (x + (c.length : Int)) = x + c.length := by unfold wrap64; omega
      rw [if_pos h, if_pos (by omega), e1, hw, wrap_i i l.length e2 hn]
      obtain ⟨b, hb1, hb2⟩ := ih (i + 1) (x + c.length) k e3 (by omega) (by omega) (by omega) (by omega) (by simpa using hk)
      refine ⟨b, hb1, fun hb => ?_⟩
      obtain ⟨h3, h4⟩ := hb2 hb
      refine ⟨h3, ?_⟩
      simp only [List.flatten_cons, List.length_append]
      omega
    · rw [if_neg h]
      exact ⟨true, by rw [if_pos (by omega)], by simp⟩
theorem great_is (l : List (List Int)) (hn : l.length ≤ 140737488351232) (hl : ∀ c ∈ l, c.length ≤ 140737488351232) (k : Nat) (hk : l.length < k) : ∃ b, sluicegatelaw03_great.f k l = some b ∧ (b = false → l.length ≤ 60 ∧ l.flatten.length ≤ 20000) := by
  obtain ⟨b, h1, h2⟩ := great_l0 l hn hl l 0 0 k rfl (by omega) (by omega) (by omega) (by omega) hk
  exact ⟨b, h1, fun hb => ⟨(h2 hb).1, by have := (h2 hb).2; omega⟩⟩
end Go.Proofs.Ytnoanllncohkdaa.Q
