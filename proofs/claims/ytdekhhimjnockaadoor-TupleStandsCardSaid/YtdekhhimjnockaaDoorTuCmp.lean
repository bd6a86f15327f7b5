/- How tuples stand, and how their keys do: plain. -/
import Derived.Test.YtdekhhimjnockaaDoorTuRef
namespace Go.Proofs.YtdekhhimjnockaaDoor.Tu
open Go.RowKit Go.Proofs.YtdekhhimjnockaaDoorW.PrintWords Go.Proofs.YtdekhhimjnockaaDoorW.PrintLast Go.Proofs.YtdekhhimjnockaaDoorW.PrintMore
open Go.Proofs.YtdekhhimjnockaaDoor Go.Proofs.YtdekhhimjnockaaDoor.Vals Go.Proofs.YtdekhhimjnockaaDoor.Word Go.Proofs.YtdekhhimjnockaaDoor.Q Go.Proofs.YtdekhhimjnockaaDoor.S
open Go.Lib (compareBytes)
set_option linter.unusedVariables false
set_option linter.unusedSimpArgs false

theorem cb_one (a b : UInt8) (r s : List UInt8) : compareBytes (a :: r) (b :: s) = if a < b then -1 else if b < a then 1 else compareBytes r s := by rw [compareBytes]
theorem cb_lt {a b : UInt8} (h : a < b) (r s : List UInt8) : compareBytes (a :: r) (b :: s) = -1 := by rw [cb_one, if_pos h]
theorem cb_gt {a b : UInt8} (h : b < a) (r s : List UInt8) : compareBytes (a :: r) (b :: s) = 1 := by
  have h2 : ¬ a < b := fun h3 => by
    have h4 := UInt8.lt_iff_toNat_lt.1 h
    have h5 := UInt8.lt_iff_toNat_lt.1 h3
    omega
  rw [cb_one, if_neg h2, if_pos h]
theorem cb_same (a : UInt8) (r s : List UInt8) : compareBytes (a :: r) (a :: s) = compareBytes r s := by
  have h2 : ¬ a < a := fun h3 => by
    have h5 := UInt8.lt_iff_toNat_lt.1 h3
    omega
  rw [cb_one, if_neg h2, if_neg h2]
theorem cb_app : ∀ (x r s : List UInt8), compareBytes (x ++ r) (x ++ s) = compareBytes r s
  | [], r, s => rfl
  | a :: x, r, s => by rw [List.cons_append, List.cons_append, cb_same, cb_app x r s]
theorem u8_tri (a b : UInt8) : a < b ∨ a = b ∨ b < a := by
  rcases Nat.lt_trichotomy a.toNat b.toNat with h | h | h
  · exact Or.inl (UInt8.lt_iff_toNat_lt.2 h)
  · exact Or.inr (Or.inl (UInt8.toNat_inj.1 h))
  · exact Or.inr (Or.inr (UInt8.lt_iff_toNat_lt.2 h))
theorem cb_neg : ∀ (a b : List UInt8), compareBytes b a = - compareBytes a b
  | [], [] => rfl
  | [], _ :: _ => rfl
  | _ :: _, [] => rfl
  | a :: x, b :: y => by
    rcases u8_tri a b with h | h | h
    · rw [cb_lt h, cb_gt h]; rfl
    · subst h; rw [cb_same, cb_same, cb_neg x y]
    · rw [cb_gt h, cb_lt h]
theorem cb_zero : ∀ {a b : List UInt8}, compareBytes a b = 0 → a = b
  | [], [], _ => rfl
  | [], _ :: _, h => by cases h
  | _ :: _, [], h => by cases h
  | a :: x, b :: y, h => by
    rcases u8_tri a b with g | g | g
    · rw [cb_lt g] at h; cases h
    · subst g; rw [cb_same] at h; rw [cb_zero h]
    · rw [cb_gt g] at h; cases h
theorem cb_self (a : List UInt8) : compareBytes a a = 0 := by
  have := cb_app a [] []
  rw [List.append_nil] at this
  exact this
theorem cb_form (a b : List UInt8) : compareBytes a b = -1 ∨ compareBytes a b = 0 ∨ compareBytes a b = 1 := by
  induction a generalizing b with
  | nil => cases b with
    | nil => exact Or.inr (Or.inl rfl)
    | cons => exact Or.inl rfl
  | cons a x ih => cases b with
    | nil => exact Or.inr (Or.inr rfl)
    | cons b y =>
      rcases u8_tri a b with g | g | g
      · exact Or.inl (cb_lt g _ _)
      · subst g; rw [cb_same]; exact ih y
      · exact Or.inr (Or.inr (cb_gt g _ _))
def cmpI (a b : Int) : Int := if a < b then -1 else if a > b then 1 else 0
theorem toU_byte {c d : Int} (hc : 0 ≤ c ∧ c < 256) (hd : 0 ≤ d ∧ d < 256) : (UInt8.ofNat c.toNat < UInt8.ofNat d.toNat) ↔ c < d := by
  rw [u8_lt (by omega) (by omega)]
  omega
theorem emod_split (x P : Int) (hP : 0 < P) : x % (P * 256) = (x / P % 256) * P + x % P := by
  have h1 := Int.mul_ediv_add_emod x P
  have h2 := Int.mul_ediv_add_emod (x / P) 256
  have r1 := Int.emod_nonneg x (Int.ne_of_gt hP)
  have r2 := Int.emod_lt_of_pos x hP
  have q1 := Int.emod_nonneg (x / P) (show (256 : Int) ≠ 0 by decide)
  have q2 := Int.emod_lt_of_pos (x / P) (show (0 : Int) < 256 by decide)
  have e : x = ((x / P % 256) * P + x % P) + P * 256 * (x / P / 256) := by
    conv => lhs; rw [← h1, ← h2]
    rw [Int.mul_add, Int.mul_comm P (x / P % 256), ← Int.mul_assoc]
    omega
  conv => lhs; rw [e]
  rw [Int.add_mul_emod_self_left]
  generalize x / P % 256 = q at q1 q2 ⊢
  generalize x % P = r at r1 r2 ⊢
  have h3 : (q + 1) * P ≤ 256 * P := Int.mul_le_mul_of_nonneg_right (by omega) (by omega)
  rw [Int.add_mul] at h3
  have h4 : 0 ≤ q * P := Int.mul_nonneg q1 (by omega)
  exact Int.emod_eq_of_lt (by omega) (by omega)
theorem cb_be (a b : Int) (r s : List UInt8) : ∀ k, compareBytes (toU (be k a) ++ r) (toU (be k b) ++ s) = if cmpI (a % 2 ^ (8 * k)) (b % 2 ^ (8 * k)) ≠ 0 then cmpI (a % 2 ^ (8 * k)) (b % 2 ^ (8 * k)) else compareBytes r s
  | 0 => by
    have h1 : ∀ x : Int, x % 2 ^ (8 * 0) = 0 := fun x => by rw [Nat.mul_zero, Int.pow_zero, Int.emod_one]
    rw [h1, h1]
    rfl
  | k + 1 => by
    have ih := cb_be a b r s k
    have hP : (0 : Int) < 2 ^ (8 * k) := Int.pow_pos (by decide)
    have hm : ∀ x : Int, x % 2 ^ (8 * (k + 1)) = (x / 2 ^ (8 * k) % 256) * 2 ^ (8 * k) + x % 2 ^ (8 * k) := by
      intro x
      have e : (2 : Int) ^ (8 * (k + 1)) = 2 ^ (8 * k) * 256 := by rw [show 8 * (k + 1) = 8 * k + 8 by omega, Int.pow_add]; rfl
      rw [e, emod_split x _ hP]
    rw [hm, hm]
    have ha := Int.emod_nonneg (a / 2 ^ (8 * k)) (show (256 : Int) ≠ 0 by decide)
    have ha2 := Int.emod_lt_of_pos (a / 2 ^ (8 * k)) (show (0 : Int) < 256 by decide)
    have hb := Int.emod_nonneg (b / 2 ^ (8 * k)) (show (256 : Int) ≠ 0 by decide)
    have hb2 := Int.emod_lt_of_pos (b / 2 ^ (8 * k)) (show (0 : Int) < 256 by decide)
    have ra := Int.emod_nonneg a (Int.ne_of_gt hP)
    have ra2 := Int.emod_lt_of_pos a hP
    have rb := Int.emod_nonneg b (Int.ne_of_gt hP)
    have rb2 := Int.emod_lt_of_pos b hP
    simp only [be, toU, List.map_cons, List.cons_append]
    change compareBytes (UInt8.ofNat (a / 2 ^ (8 * k) % 256).toNat :: (toU (be k a) ++ r)) (UInt8.ofNat (b / 2 ^ (8 * k) % 256).toNat :: (toU (be k b) ++ s)) = _
    generalize a / 2 ^ (8 * k) % 256 = qa at ha ha2 ⊢
    generalize b / 2 ^ (8 * k) % 256 = qb at hb hb2 ⊢
    generalize a % 2 ^ (8 * k) = x at ih ra ra2 ⊢
    generalize b % 2 ^ (8 * k) = y at ih rb rb2 ⊢
    generalize (2 : Int) ^ (8 * k) = P at hP ra2 rb2 ⊢
    rcases Int.lt_trichotomy qa qb with h | h | h
    · have hlt : qa * P + x < qb * P + y := by
        have h1 : (qa + 1) * P ≤ qb * P := Int.mul_le_mul_of_nonneg_right (by omega) (by omega)
        rw [Int.add_mul] at h1
        omega
      rw [cb_lt ((toU_byte ⟨ha, ha2⟩ ⟨hb, hb2⟩).2 h)]
      have e : cmpI (qa * P + x) (qb * P + y) = -1 := by unfold cmpI; rw [if_pos hlt]
      rw [e]
      rfl
    · subst h
      rw [cb_same, ih]
      have e : cmpI (qa * P + x) (qa * P + y) = cmpI x y := by
        unfold cmpI
        by_cases h1 : x < y
        · rw [if_pos h1, if_pos (by omega)]
        · rw [if_neg h1, if_neg (by omega)]
          by_cases h2 : x > y
          · rw [if_pos h2, if_pos (by omega)]
          · rw [if_neg h2, if_neg (by omega)]
      rw [e]
    · have hlt : qb * P + y < qa * P + x := by
        have h1 : (qb + 1) * P ≤ qa * P := Int.mul_le_mul_of_nonneg_right (by omega) (by omega)
        rw [Int.add_mul] at h1
        omega
      rw [cb_gt ((toU_byte ⟨hb, hb2⟩ ⟨ha, ha2⟩).2 h)]
      have e : cmpI (qa * P + x) (qb * P + y) = 1 := by unfold cmpI; rw [if_neg (by omega), if_pos hlt]
      rw [e]
      rfl
theorem u8_pos {c : UInt8} (h : c ≠ 0) : (0 : UInt8) < c := by
  apply UInt8.lt_iff_toNat_lt.2
  rcases Nat.eq_zero_or_pos c.toNat with e | e
  · exact absurd (UInt8.toNat_inj.1 e) h
  · exact e
theorem cb_esc : ∀ (t u r s : List UInt8), compareBytes (escU t ++ 0 :: 1 :: r) (escU u ++ 0 :: 1 :: s) = if compareBytes t u ≠ 0 then compareBytes t u else compareBytes r s
  | [], [], r, s => by
    rw [if_neg (by simp [compareBytes])]
    show compareBytes (0 :: 1 :: r) (0 :: 1 :: s) = _
    rw [cb_same, cb_same]
  | [], d :: u, r, s => by
    rw [if_pos (by simp [compareBytes]), escU_cons]
    by_cases hd : d = 0
    · subst hd
      rw [if_pos rfl]
      show compareBytes (0 :: 1 :: r) (0 :: 255 :: (escU u ++ 0 :: 1 :: s)) = -1
      rw [cb_same, cb_lt (by decide)]
    · rw [if_neg hd]
      show compareBytes (0 :: 1 :: r) (d :: (escU u ++ 0 :: 1 :: s)) = -1
      rw [cb_lt (u8_pos hd)]
  | c :: t, [], r, s => by
    rw [if_pos (by simp [compareBytes]), escU_cons]
    by_cases hd : c = 0
    · subst hd
      rw [if_pos rfl]
      show compareBytes (0 :: 255 :: (escU t ++ 0 :: 1 :: r)) (0 :: 1 :: s) = 1
      rw [cb_same, cb_gt (by decide)]
    · rw [if_neg hd]
      show compareBytes (c :: (escU t ++ 0 :: 1 :: r)) (0 :: 1 :: s) = 1
      rw [cb_gt (u8_pos hd)]
  | c :: t, d :: u, r, s => by
    rw [escU_cons, escU_cons]
    rcases u8_tri c d with h | h | h
    · rw [cb_lt h, show (if (-1 : Int) ≠ 0 then (-1 : Int) else compareBytes r s) = -1 from rfl]
      have hd : d ≠ 0 := fun e => by
        subst e
        have := UInt8.lt_iff_toNat_lt.1 h
        have h0 : (0 : UInt8).toNat = 0 := rfl
        omega
      rw [if_neg hd]
      by_cases hc : c = 0
      · subst hc
        rw [if_pos rfl]
        show compareBytes (0 :: 255 :: (escU t ++ 0 :: 1 :: r)) (d :: (escU u ++ 0 :: 1 :: s)) = -1
        exact cb_lt h _ _
      · rw [if_neg hc]
        show compareBytes (c :: (escU t ++ 0 :: 1 :: r)) (d :: (escU u ++ 0 :: 1 :: s)) = -1
        exact cb_lt h _ _
    · subst h
      rw [cb_same, List.append_assoc, List.append_assoc, cb_app, cb_esc t u r s]
    · rw [cb_gt h, show (if (1 : Int) ≠ 0 then (1 : Int) else compareBytes r s) = 1 from rfl]
      have hd : c ≠ 0 := fun e => by
        subst e
        have := UInt8.lt_iff_toNat_lt.1 h
        have h0 : (0 : UInt8).toNat = 0 := rfl
        omega
      rw [if_neg hd]
      by_cases hc : d = 0
      · subst hc
        rw [if_pos rfl]
        show compareBytes (c :: (escU t ++ 0 :: 1 :: r)) (0 :: 255 :: (escU u ++ 0 :: 1 :: s)) = 1
        exact cb_gt h _ _
      · rw [if_neg hc]
        show compareBytes (c :: (escU t ++ 0 :: 1 :: r)) (d :: (escU u ++ 0 :: 1 :: s)) = 1
        exact cb_gt h _ _
/-- How two parts stand. -/
def cmpP (p q : S45) : Int := if (p.f0 != q.f0) = true then (if p.f0 = true then -1 else 1) else if p.f1 < q.f1 then -1 else if p.f1 > q.f1 then 1 else compareBytes p.f2.data.toList q.f2.data.toList
def cmpL : List S45 → List S45 → Int
  | [], [] => 0
  | [], _ :: _ => -1
  | _ :: _, [] => 1
  | p :: l, q :: m => if cmpP p q ≠ 0 then cmpP p q else cmpL l m
theorem cb_part {p q : S45} (hp : mayP p = true) (hq : mayP q = true) (op : OkP p) (oq : OkP q) (r s : List UInt8) :
    compareBytes (toU (encP p) ++ r) (toU (encP q) ++ s) = if cmpP p q ≠ 0 then cmpP p q else compareBytes r s := by
  obtain ⟨p0, p1, p2⟩ := p
  obtain ⟨q0, q1, q2⟩ := q
  cases p0 <;> cases q0
  · obtain rfl : p1 = 0 := beq_iff_eq.1 hp
    obtain rfl : q1 = 0 := beq_iff_eq.1 hq
    have e : ∀ x : ByteArray, toU (encP ⟨false, 0, x⟩) = 2 :: (escU x.data.toList ++ [0, 1]) := fun x => by
      show toU (2 :: (intsU (escU x.data.toList) ++ [0, 1])) = _
      rw [show toU (2 :: (intsU (escU x.data.toList) ++ [0, 1])) = 2 :: toU (intsU (escU x.data.toList) ++ [0, 1]) from rfl, toU_app, toU_intsU]
      rfl
    rw [e, e]
    show compareBytes (2 :: ((escU p2.data.toList ++ [0, 1]) ++ r)) (2 :: ((escU q2.data.toList ++ [0, 1]) ++ s)) = _
    rw [cb_same, List.append_assoc, List.append_assoc]
    exact cb_esc _ _ r s
  · show compareBytes (2 :: _) (1 :: _) = _
    rw [cb_gt (by decide)]
    rfl
  · show compareBytes (1 :: _) (2 :: _) = _
    rw [cb_lt (by decide)]
    rfl
  · obtain rfl : p2 = ⟨#[]⟩ := empty_of hp
    obtain rfl : q2 = ⟨#[]⟩ := empty_of hq
    have e : ∀ x : Int, toU (encP ⟨true, x, ⟨#[]⟩⟩) = 1 :: toU (be 8 x) := fun x => rfl
    rw [e, e]
    show compareBytes (1 :: (toU (be 8 p1) ++ r)) (1 :: (toU (be 8 q1) ++ s)) = _
    rw [cb_same, cb_be]
    have b1 : p1 % 2 ^ (8 * 8) = p1 := Int.emod_eq_of_lt op.1 (by have := op.2.1; simpa using this)
    have b2 : q1 % 2 ^ (8 * 8) = q1 := Int.emod_eq_of_lt oq.1 (by have := oq.2.1; simpa using this)
    rw [b1, b2]
    rfl
theorem encU_cons (p : S45) (l : List S45) : encU (p :: l) = toU (encP p) ++ encU l := by
  unfold encU
  rw [show enc (p :: l) = encP p ++ enc l from rfl, toU_app]
theorem enc_head (p : S45) : ∃ (x : UInt8) (r : List UInt8), toU (encP p) = x :: r ∧ x < 3 := by
  obtain ⟨p0, p1, p2⟩ := p
  cases p0
  · exact ⟨2, _, rfl, by decide⟩
  · exact ⟨1, _, rfl, by decide⟩
def Good (l : List S45) : Prop := ∀ p ∈ l, mayP p = true ∧ OkP p
theorem Good.head {p : S45} {l : List S45} (h : Good (p :: l)) : mayP p = true ∧ OkP p := h p List.mem_cons_self
theorem Good.tail {p : S45} {l : List S45} (h : Good (p :: l)) : Good l := fun q hq => h q (List.mem_cons_of_mem _ hq)
theorem cb_enc : ∀ {a b : List S45}, Good a → Good b → compareBytes (encU a) (encU b) = cmpL a b
  | [], [], _, _ => rfl
  | [], q :: m, _, _ => by
    obtain ⟨x, r, hx, _⟩ := enc_head q
    rw [encU_cons, hx]
    rfl
  | p :: l, [], _, _ => by
    obtain ⟨x, r, hx, _⟩ := enc_head p
    rw [encU_cons, hx]
    rfl
  | p :: l, q :: m, ha, hb => by
    rw [encU_cons, encU_cons, cb_part ha.head.1 hb.head.1 ha.head.2 hb.head.2, cb_enc ha.tail hb.tail]
    rfl
theorem cmpP_zero {p q : S45} (h : cmpP p q = 0) : p = q := by
  obtain ⟨p0, p1, p2⟩ := p
  obtain ⟨q0, q1, q2⟩ := q
  unfold cmpP at h
  simp only at h
  by_cases h0 : (p0 != q0) = true
  · rw [if_pos h0] at h
    split at h <;> cases h
  · rw [if_neg h0] at h
    have e0 : p0 = q0 := by simpa using h0
    by_cases h1 : p1 < q1
    · rw [if_pos h1] at h; cases h
    · rw [if_neg h1] at h
      by_cases h2 : p1 > q1
      · rw [if_pos h2] at h; cases h
      · rw [if_neg h2] at h
        have e1 : p1 = q1 := by omega
        have e2 : p2 = q2 := by
          apply ByteArray.ext
          exact Array.toList_inj.1 (cb_zero h)
        rw [e0, e1, e2]
theorem cmpP_self (p : S45) : cmpP p p = 0 := by
  unfold cmpP
  rw [if_neg (by simp), if_neg (by omega), if_neg (by omega), cb_self]
theorem cmpP_neg (p q : S45) : cmpP q p = - cmpP p q := by
  obtain ⟨p0, p1, p2⟩ := p
  obtain ⟨q0, q1, q2⟩ := q
  unfold cmpP
  simp only
  by_cases h0 : p0 = q0
  · subst h0
    have e : (p0 != p0) = false := by simp
    simp only [e, Bool.false_eq_true, if_false]
    rcases Int.lt_trichotomy p1 q1 with h | h | h
    · rw [if_neg (show ¬ q1 < p1 by omega), if_pos (show q1 > p1 from h), if_pos h]; rfl
    · subst h
      simp only [gt_iff_lt, Int.lt_irrefl, if_false]
      exact cb_neg _ _
    · rw [if_pos (show q1 < p1 from h), if_neg (show ¬ p1 < q1 by omega), if_pos (show p1 > q1 from h)]
  · cases p0 <;> cases q0
    · exact absurd rfl h0
    · rfl
    · rfl
    · exact absurd rfl h0
theorem cmpL_zero : ∀ {a b : List S45}, cmpL a b = 0 ↔ a = b
  | [], [] => ⟨fun _ => rfl, fun _ => rfl⟩
  | [], q :: m => ⟨fun h => (by cases h), fun h => (by cases h)⟩
  | p :: l, [] => ⟨fun h => (by cases h), fun h => (by cases h)⟩
  | p :: l, q :: m => by
    rw [cmpL]
    by_cases hc : cmpP p q = 0
    · rw [if_neg (by omega), cmpL_zero, cmpP_zero hc]
      exact ⟨fun h => by rw [h], fun h => by injection h⟩
    · rw [if_pos hc]
      refine ⟨fun h => absurd h hc, fun h => ?_⟩
      injection h with h1 _
      subst h1
      exact absurd (cmpP_self p) hc
theorem in_law : ∀ {a b : List S45}, Good a → Good b → ((compareBytes (encU a) (encU b) ≤ 0 ∧ compareBytes (encU b) (encU a ++ [3]) < 0) ↔ b.take a.length = a)
  | [], b, _, hb => by
    rw [List.length_nil, List.take_zero]
    refine ⟨fun _ => rfl, fun _ => ?_⟩
    cases b with
    | nil => exact ⟨by decide, by decide⟩
    | cons q m =>
      obtain ⟨x, r, hx, h3⟩ := enc_head q
      rw [encU_cons, hx]
      refine ⟨by show (-1 : Int) ≤ 0; decide, ?_⟩
      show compareBytes (x :: (r ++ encU m)) (3 :: []) < 0
      rw [cb_lt h3]
      decide
  | p :: l, [], _, _ => by
    obtain ⟨x, r, hx, h3⟩ := enc_head p
    rw [encU_cons, hx]
    refine ⟨fun h => absurd h.1 (by show ¬ ((1 : Int) ≤ 0); decide), fun h => by rw [List.take_nil] at h; cases h⟩
  | p :: l, q :: m, ha, hb => by
    rw [encU_cons, encU_cons, List.append_assoc, cb_part ha.head.1 hb.head.1 ha.head.2 hb.head.2, cb_part hb.head.1 ha.head.1 hb.head.2 ha.head.2, List.length_cons, List.take_succ_cons]
    by_cases hc : cmpP p q = 0
    · have e := cmpP_zero hc
      subst e
      rw [if_neg (by rw [cmpP_self]; decide), if_neg (by rw [cmpP_self]; decide), in_law ha.tail hb.tail]
      exact ⟨fun h => by rw [h], fun h => by injection h⟩
    · have hn := cmpP_neg p q
      rw [if_pos hc, if_pos (by omega)]
      refine ⟨fun h => by omega, fun h => ?_⟩
      injection h with h1 _
      subst h1
      exact absurd (cmpP_self q) hc
theorem cmp_ev0 (a b : ByteArray) (ha : a.size ≤ 140737488355328) : ∀ (d i : Nat), i ≤ a.size → i ≤ b.size → a.size - i = d → Ev (fun k => sluicegateref01_Compare.l0 k a b (i : Int)) (compareBytes (a.data.toList.drop i) (b.data.toList.drop i)) := by
  intro d
  induction d with
  | zero =>
    intro i h1 h2 hd
    have e1 : ¬ ((i : Int) < (a.size : Int)) := by omega
    refine Ev.step (f := fun k => sluicegateref01_Compare.j1 k a b (i : Int) false) (fun k => by simp only [sluicegateref01_Compare.l0]; rw [if_neg e1]) ?_
    refine Ev.step (f := fun k => some (if (a.size : Int) < (b.size : Int) then -1 else 0)) (fun k => by
      simp only [sluicegateref01_Compare.j1, Bool.false_eq_true, if_false]
      by_cases hb : (a.size : Int) < (b.size : Int)
      · rw [if_pos hb, if_pos hb]
      · rw [if_neg hb, if_neg hb, if_neg (by omega)]) ?_
    have hda : a.data.toList.drop i = [] := List.drop_eq_nil_of_le (by rw [data_length]; omega)
    rw [hda]
    by_cases hb : (a.size : Int) < (b.size : Int)
    · rw [if_pos hb]
      have hlt : i < b.data.toList.length := by rw [data_length]; omega
      rw [List.drop_eq_getElem_cons hlt]
      exact Ev.now _
    · rw [if_neg hb]
      have hdb : b.data.toList.drop i = [] := List.drop_eq_nil_of_le (by rw [data_length]; omega)
      rw [hdb]
      exact Ev.now _
  | succ d ih =>
    intro i h1 h2 hd
    have e1 : (i : Int) < (a.size : Int) := by omega
    have hla : i < a.data.toList.length := by rw [data_length]; omega
    by_cases hb : i < b.size
    · have e2 : (i : Int) < (b.size : Int) := by omega
      have hlb : i < b.data.toList.length := by rw [data_length]; omega
      have ih1 := ih (i + 1) (by omega) (by omega) (by omega)
      rw [List.drop_eq_getElem_cons hla, List.drop_eq_getElem_cons hlb]
      refine Ev.step (f := fun k => sluicegateref01_Compare.j1 k a b (i : Int) true) (fun k => by simp only [sluicegateref01_Compare.l0]; rw [if_pos e1, decide_eq_true e2]) ?_
      refine Ev.step (f := fun k => if (bt a i) < (bt b i) then (some (-1)) else (if (bt a i) > (bt b i) then (some 1) else (sluicegateref01_Compare.l0 k a b (wrap64 ((i : Int) + 1))))) (fun k => by
        simp only [sluicegateref01_Compare.j1, if_true]; rw [if_pos (by omega), if_pos e1, if_pos e2]) ?_
      rw [bt_is (by omega) hla, bt_is hb hlb, w64n (n := a.size) (by omega) ha]
      generalize a.data.toList[i] = x
      generalize b.data.toList[i] = y
      simp only [compareBytes]
      by_cases hxy : x < y
      · have g1 : (x.toNat : Int) < (y.toNat : Int) := by have := UInt8.lt_iff_toNat_lt.1 hxy; omega
        rw [if_pos hxy]
        simp only [if_pos g1]
        exact Ev.now _
      · have g1 : ¬ (x.toNat : Int) < (y.toNat : Int) := fun h => hxy (UInt8.lt_iff_toNat_lt.2 (by omega))
        rw [if_neg hxy]
        simp only [if_neg g1]
        by_cases hyx : y < x
        · have g2 : (x.toNat : Int) > (y.toNat : Int) := by have := UInt8.lt_iff_toNat_lt.1 hyx; omega
          rw [if_pos hyx]
          simp only [if_pos g2]
          exact Ev.now _
        · have g2 : ¬ (x.toNat : Int) > (y.toNat : Int) := fun h => hyx (UInt8.lt_iff_toNat_lt.2 (by omega))
          rw [if_neg hyx]
          simp only [if_neg g2]
          exact ih1
    · have e2 : ¬ ((i : Int) < (b.size : Int)) := by omega
      refine Ev.step (f := fun k => sluicegateref01_Compare.j1 k a b (i : Int) false) (fun k => by simp only [sluicegateref01_Compare.l0]; rw [if_pos e1, decide_eq_false e2]) ?_
      refine Ev.step (f := fun k => some 1) (fun k => by
        simp only [sluicegateref01_Compare.j1, Bool.false_eq_true, if_false]
        rw [if_neg (by omega), if_pos (by omega)]) ?_
      have hdb : b.data.toList.drop i = [] := List.drop_eq_nil_of_le (by rw [data_length]; omega)
      rw [hdb, List.drop_eq_getElem_cons hla]
      exact Ev.now _
theorem cmp_ev (a b : ByteArray) (ha : a.size ≤ 140737488355328) : Ev (fun k => sluicegateref01_Compare.f k a b) (compareBytes a.data.toList b.data.toList) :=
  cmp_ev0 a b ha a.size 0 (by omega) (by omega) (by omega)
theorem one_ev (p q : S45) (hp : p.f2.size ≤ 100000) : Ev (fun k => sluicegateref37_one.f k p.f0 p.f1 p.f2 q.f0 q.f1 q.f2) (cmpP p q) := by
  have h := cmp_ev p.f2 q.f2 (by omega)
  unfold cmpP
  by_cases h0 : (p.f0 != q.f0) = true
  · refine Ev.congr (f := fun k => some (if p.f0 = true then -1 else 1)) (fun k => ?_) ?_
    · unfold sluicegateref37_one.f
      rw [if_pos h0]
      split <;> rfl
    · rw [if_pos h0]
      exact Ev.now _
  · rw [if_neg h0]
    by_cases h1 : p.f1 < q.f1
    · rw [if_pos h1]
      exact Ev.congr (f := fun k => some (-1)) (fun k => by unfold sluicegateref37_one.f; rw [if_neg h0, if_pos h1]) (Ev.now _)
    · rw [if_neg h1]
      by_cases h2 : p.f1 > q.f1
      · rw [if_pos h2]
        exact Ev.congr (f := fun k => some 1) (fun k => by unfold sluicegateref37_one.f; rw [if_neg h0, if_neg h1, if_pos h2]) (Ev.now _)
      · rw [if_neg h2]
        refine Ev.congr (f := fun k => (sluicegateref01_Compare.f k p.f2 q.f2).bind fun t146 => some t146) (fun k => by unfold sluicegateref37_one.f; rw [if_neg h0, if_neg h1, if_neg h2]) (Ev.bind h (Ev.now _))
theorem rcompare_ev (a b : List S45) (ha : a.length ≤ 100000) (hs : ∀ p ∈ a, p.f2.size ≤ 100000) : Ev (fun k => sluicegateref37_Compare.f k (a.map to59) (b.map to59)) (cmpL a b) := by
  have hla : (a.map to59).length = a.length := List.length_map _
  have hlb : (b.map to59).length = b.length := List.length_map _
  have main : ∀ (d i : Nat), a.length - i = d → i ≤ a.length → i ≤ b.length → Ev (fun k => sluicegateref37_Compare.l0 k (a.map to59) (b.map to59) (i : Int)) (cmpL (a.drop i) (b.drop i)) := by
    intro d
    induction d with
    | zero =>
      intro i hd h1 h2
      refine Ev.step (f := fun k => sluicegateref37_Compare.j1 k (a.map to59) (b.map to59) (i : Int) false) (fun k => by simp only [sluicegateref37_Compare.l0, hla]; rw [if_neg (by omega)]) ?_
      rw [show a.drop i = [] from List.drop_eq_nil_of_le (by omega)]
      by_cases hb : i < b.length
      · rw [List.drop_eq_getElem_cons hb]
        exact Ev.step (f := fun k => some (-1)) (fun k => by simp only [sluicegateref37_Compare.j1, hla, hlb]; rw [if_neg (by simp), if_pos (by omega)]) (Ev.now _)
      · rw [List.drop_eq_nil_of_le (by omega)]
        exact Ev.step (f := fun k => some 0) (fun k => by simp only [sluicegateref37_Compare.j1, hla, hlb]; rw [if_neg (by simp), if_neg (by omega), if_neg (by omega)]) (Ev.now _)
    | succ d ih =>
      intro i hd h1 h2
      have hi : i < a.length := by omega
      by_cases hb : i < b.length
      · have ih1 := ih (i + 1) (by omega) (by omega) (by omega)
        rw [List.drop_eq_getElem_cons hi, List.drop_eq_getElem_cons hb, cmpL]
        have r1 : rd_T59 (a.map to59) (i : Int) = to59 a[i] := by rw [rd59 (by omega), List.getElem_map]
        have r2 : rd_T59 (b.map to59) (i : Int) = to59 b[i] := by rw [rd59 (by omega), List.getElem_map]
        have q0 : (0 : Int) ≤ (i : Int) := Int.natCast_nonneg _
        have q1 : (i : Int) < (a.length : Int) := fact_lt hi
        have q2 : (i : Int) < (b.length : Int) := fact_lt hb
        have hw := w64n hi (by omega)
        refine Ev.step (f := fun k => sluicegateref37_Compare.j1 k (a.map to59) (b.map to59) (i : Int) true) (fun k => by simp only [sluicegateref37_Compare.l0, hla, hlb]; rw [if_pos q1, decide_eq_true q2]) ?_
        refine Ev.step (f := fun k => (sluicegateref37_one.f k (a[i]).f0 (a[i]).f1 (a[i]).f2 (b[i]).f0 (b[i]).f1 (b[i]).f2).bind fun t149 => (if t149 = 0 then (sluicegateref37_Compare.l0 k (a.map to59) (b.map to59) ((i + 1 : Nat) : Int)) else (some t149))) (fun k => by
          simp only [sluicegateref37_Compare.j1, hla, hlb, r1, r2, hw]
          rw [if_pos trivial, if_pos q0, if_pos q1, if_pos q2]
          rfl) ?_
        refine Ev.bind (one_ev _ _ (hs _ (List.getElem_mem hi))) ?_
        by_cases hc : cmpP a[i] b[i] = 0
        · simp only [if_pos hc]
          rw [if_neg (by omega)]
          exact ih1
        · simp only [if_neg hc]
          rw [if_pos hc]
          exact Ev.now _
      · rw [List.drop_eq_getElem_cons hi, show b.drop i = [] from List.drop_eq_nil_of_le (by omega)]
        refine Ev.step (f := fun k => sluicegateref37_Compare.j1 k (a.map to59) (b.map to59) (i : Int) false) (fun k => by simp only [sluicegateref37_Compare.l0, hla, hlb]; rw [if_pos (by omega), decide_eq_false (by omega)]) ?_
        exact Ev.step (f := fun k => some 1) (fun k => by simp only [sluicegateref37_Compare.j1, hla, hlb]; rw [if_neg (by simp), if_neg (by omega), if_pos (by omega)]) (Ev.now _)
  have h := main _ 0 rfl (by omega) (by omega)
  rw [List.drop_zero, List.drop_zero] at h
  exact h
end Go.Proofs.YtdekhhimjnockaaDoor.Tu
