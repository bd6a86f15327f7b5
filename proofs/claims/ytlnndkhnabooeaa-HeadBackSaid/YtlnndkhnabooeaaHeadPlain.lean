/- A head's block, in plain lists: no memory. -/
import Derived.Test.YtlnndkhnabooeaaSAll
import Derived.Test.YtlnndkhnabooeaaWAll
import Derived.Test.YtlnndkhnabooeaaConfFns
namespace Go.Proofs.Ytlnndkhnabooeaa.Head
open Go.Proofs.Ytlnndkhnabooeaa.Math Go.Proofs.Ytlnndkhnabooeaa.Word Go.Proofs.Ytlnndkhnabooeaa.Q
set_option linter.unusedVariables false
set_option linter.unusedSimpArgs false

structure Hd where
  c : Cfg
  root : Int
  h : Int
def Hd.right (x : Hd) : Prop := x.c.right ∧ 1 ≤ x.root ∧ x.root < x.c.blocks ∧ 1 ≤ x.h ∧ x.h ≤ 41
instance (x : Hd) : Decidable x.right := by unfold Hd.right Cfg.right Cfg.sized; infer_instance
def Hd.nums (x : Hd) : List Int := [x.c.blocks, x.c.bytes, x.c.frames, x.c.fan, x.c.buf, x.c.leaf, x.c.key, x.c.val, x.root, x.h]
def nameB : List Int := [83, 76, 85, 73, 67, 69, 48, 49]
def bes : List Int → List Int
  | [] => []
  | x :: l => be 4 x ++ bes l
theorem bes_app (a b : List Int) : bes (a ++ b) = bes a ++ bes b := by
  induction a with
  | nil => rfl
  | cons x t ih => simp only [List.cons_append, bes, ih, List.append_assoc]
theorem bes_len (a : List Int) : (bes a).length = 4 * a.length := by
  induction a with
  | nil => rfl
  | cons x t ih => simp only [bes, List.length_append, be_length, ih, List.length_cons]; omega
def Hd.front (x : Hd) : List Int := nameB ++ bes x.nums
def Hd.pre (x : Hd) : List Int := x.front ++ List.replicate 12 0
def Hd.sum (x : Hd) : Int := M 1 x.pre
def Hd.blk (x : Hd) : List Int := x.pre ++ be 4 x.sum ++ List.replicate (x.c.bytes - 64).toNat 0
theorem front_len (x : Hd) : x.front.length = 48 := by simp [Hd.front, nameB, bes_len, Hd.nums]
theorem pre_len (x : Hd) : x.pre.length = 60 := by simp [Hd.pre, front_len]
theorem blk_len {x : Hd} (h : 64 ≤ x.c.bytes) : (x.blk.length : Int) = x.c.bytes := by
  simp only [Hd.blk, List.length_append, pre_len, be_length, List.length_replicate]
  omega
theorem nums_bd {x : Hd} (h : x.right) : ∀ v ∈ x.nums, 0 ≤ v ∧ v ≤ 65536 := by
  unfold Hd.right Cfg.right Cfg.sized at h
  intro v hv
  simp only [Hd.nums, List.mem_cons, List.not_mem_nil, or_false] at hv
  rcases hv with rfl | rfl | rfl | rfl | rfl | rfl | rfl | rfl | rfl | rfl <;> omega

theorem by_be (k : Nat) (v : Int) : By (be k v) := by
  induction k with
  | zero => intro c hc; simp [be] at hc
  | succ k ih =>
    intro c hc
    simp only [be, List.mem_cons] at hc
    rcases hc with rfl | hc
    · have h1 := Int.emod_nonneg (v / 2 ^ (8 * k)) (show (256 : Int) ≠ 0 by decide)
      have h2 := Int.emod_lt_of_pos (v / 2 ^ (8 * k)) (show (0 : Int) < 256 by decide)
      omega
    · exact ih c hc
theorem by_bes (l : List Int) : By (bes l) := by
  induction l with
  | nil => intro c hc; simp [bes] at hc
  | cons x t ih => exact By.app (by_be 4 x) ih
theorem by_zeros (n : Nat) : By (List.replicate n 0) := fun c hc => by rw [(List.mem_replicate.1 hc).2]; decide
theorem by_name : By nameB := by unfold By nameB; decide
theorem by_pre (x : Hd) : By x.pre := By.app (By.app by_name (by_bes _)) (by_zeros _)
theorem by_blk (x : Hd) : By x.blk := By.app (By.app (by_pre x) (by_be _ _)) (by_zeros _)

/-- The four bytes of number i, of those that bytes may be a head of. -/
def at4 (b : List Int) (i : Nat) : Int := num ((b.drop (8 + 4 * i)).take 4)
def hdOf (b : List Int) : Hd := ⟨⟨at4 b 0, at4 b 1, at4 b 2, at4 b 3, at4 b 4, at4 b 5, at4 b 6, at4 b 7⟩, at4 b 8, at4 b 9⟩
def isHd (b : List Int) : Prop := 48 ≤ b.length ∧ (hdOf b).right ∧ (hdOf b).blk = b
instance (b : List Int) : Decidable (isHd b) := by unfold isHd; infer_instance

theorem num_be4 {v : Int} (h0 : 0 ≤ v) (h1 : v < 4294967296) : num (be 4 v) = v := by
  obtain ⟨n, rfl⟩ := Int.eq_ofNat_of_zero_le h0
  have h := num_be n 4
  rw [Nat.mod_eq_of_lt (by omega)] at h
  exact h
theorem be4_inj {a b : Int} (ha : 0 ≤ a) (ha' : a < 4294967296) (hb : 0 ≤ b) (hb' : b < 4294967296) (h : be 4 a = be 4 b) : a = b := by
  rw [← num_be4 ha ha', ← num_be4 hb hb', h]

theorem bes_at (l : List Int) (r : List Int) : ∀ i (hi : i < l.length), ((bes l ++ r).drop (4 * i)).take 4 = be 4 l[i] := by
  induction l with
  | nil => intro i hi; simp at hi
  | cons x t ih =>
    intro i hi
    cases i with
    | zero =>
      simp only [bes, List.append_assoc, Nat.mul_zero, List.drop_zero, List.getElem_cons_zero]
      exact List.take_left' (be_length 4 x)
    | succ i =>
      simp only [bes, List.append_assoc, List.getElem_cons_succ]
      rw [show 4 * (i + 1) = 4 + 4 * i by omega, ← List.drop_drop, List.drop_left' (be_length 4 x)]
      exact ih i (by simpa using hi)
theorem at4_of {x : Hd} (r : List Int) (h : x.right) {i : Nat} (hi : i < 10) : at4 (x.front ++ r) i = x.nums[i]'(by simp [Hd.nums]; exact hi) := by
  unfold at4 Hd.front
  have hl : i < x.nums.length := by simp [Hd.nums]; exact hi
  have hb := nums_bd h _ (List.getElem_mem hl)
  rw [List.append_assoc, ← List.drop_drop, List.drop_left' (show nameB.length = 8 from rfl), bes_at x.nums r i hl, num_be4 hb.1 (by omega)]
theorem hdOf_front {x : Hd} (r : List Int) (h : x.right) : hdOf (x.front ++ r) = x := by
  unfold hdOf
  rw [at4_of r h (i := 0) (by decide), at4_of r h (i := 1) (by decide), at4_of r h (i := 2) (by decide), at4_of r h (i := 3) (by decide), at4_of r h (i := 4) (by decide), at4_of r h (i := 5) (by decide), at4_of r h (i := 6) (by decide), at4_of r h (i := 7) (by decide), at4_of r h (i := 8) (by decide), at4_of r h (i := 9) (by decide)]
  rfl
theorem blk_front (x : Hd) : ∃ r, x.blk = x.front ++ r := ⟨_, by unfold Hd.blk Hd.pre; rw [List.append_assoc, List.append_assoc]⟩
theorem hdOf_blk {x : Hd} (h : x.right) : hdOf x.blk = x := by
  obtain ⟨r, hr⟩ := blk_front x
  rw [hr, hdOf_front r h]
theorem isHd_blk {x : Hd} (h : x.right) : isHd x.blk := by
  refine ⟨?_, by rw [hdOf_blk h]; exact h, by rw [hdOf_blk h]⟩
  have h1 := blk_len (x := x) h.1.2.2.2.2.2.2.1
  have h2 := h.1.2.2.2.2.2.2.1
  omega
theorem isHd_64 {b : List Int} (h : isHd b) : 64 ≤ b.length := by
  have h1 := blk_len (x := hdOf b) h.2.1.1.2.2.2.2.2.2.1
  have h2 := h.2.1.1.2.2.2.2.2.2.1
  rw [h.2.2] at h1
  omega
/-- hdOf looks at no byte from the 48th on. -/
theorem at4_take (b : List Int) {i : Nat} (hi : i < 10) : at4 (b.take 48) i = at4 b i := by
  unfold at4
  rw [List.drop_take, List.take_take, Nat.min_eq_left (by omega)]
theorem hdOf_take (b : List Int) : hdOf (b.take 48) = hdOf b := by
  unfold hdOf
  rw [at4_take b (i := 0) (by decide), at4_take b (i := 1) (by decide), at4_take b (i := 2) (by decide), at4_take b (i := 3) (by decide), at4_take b (i := 4) (by decide), at4_take b (i := 5) (by decide), at4_take b (i := 6) (by decide), at4_take b (i := 7) (by decide), at4_take b (i := 8) (by decide), at4_take b (i := 9) (by decide)]
theorem take60 (x : Hd) : x.blk.take 60 = x.pre := by unfold Hd.blk; rw [List.append_assoc]; exact List.take_left' (pre_len x)
theorem mid4 (x : Hd) : (x.blk.drop 60).take 4 = be 4 x.sum := by
  unfold Hd.blk
  rw [List.append_assoc, List.drop_left' (pre_len x)]
  exact List.take_left' (be_length 4 _)
theorem set_ne {b : List Int} {k : Nat} (hk : k < b.length) {c : Int} (hc : c ≠ b.getD k 0) : b.set k c ≠ b := by
  intro h
  apply hc
  have := congrArg (fun l => l.getD k 0) h
  simp only [List.getD_eq_getElem?_getD, List.getElem?_set_self hk, Option.getD_some] at this
  rw [this, List.getD_eq_getElem?_getD]
/-- With one byte turned it is the block of no head. -/
theorem turned {x : Hd} (hx : x.right) {k : Nat} (hk : k < x.blk.length) {c : Int} (h0 : 0 ≤ c) (h1 : c ≤ 255) (hc : c ≠ x.blk.getD k 0) : ¬ isHd (x.blk.set k c) := by
  intro h
  obtain ⟨_, hy, hb⟩ := h
  by_cases h48 : 48 ≤ k
  · have he : hdOf (x.blk.set k c) = x := by
      rw [← hdOf_take, List.take_set, List.set_eq_of_length_le (by rw [List.length_take]; omega), hdOf_take, hdOf_blk hx]
    rw [he] at hb
    exact set_ne hk hc hb.symm
  · generalize hdOf (x.blk.set k c) = y at hy hb
    have e60 : y.pre = x.pre.set k c := by rw [← take60 y, hb, List.take_set, take60]
    have e4 : be 4 y.sum = be 4 x.sum := by rw [← mid4 y, hb, List.drop_set, if_pos (by omega), mid4]
    have r1 := M_range 1 y.pre
    have r2 := M_range 1 x.pre
    have es : y.sum = x.sum := be4_inj r1.1 r1.2 r2.1 r2.2 e4
    unfold Hd.sum at es
    rw [e60] at es
    have hkp : k < x.pre.length := by rw [pre_len]; omega
    have := (M_set (by_pre x) hkp h0 h1).1 es
    apply hc
    rw [this, ← take60 x, List.getD_eq_getElem?_getD, List.getD_eq_getElem?_getD, List.getElem?_take, if_pos (by omega)]
end Go.Proofs.Ytlnndkhnabooeaa.Head
