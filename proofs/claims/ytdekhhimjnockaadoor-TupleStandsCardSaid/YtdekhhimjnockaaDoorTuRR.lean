/- What the document's Read comes to: plain. -/
import Derived.Test.YtdekhhimjnockaaDoorTuRef
namespace Go.Proofs.YtdekhhimjnockaaDoor.Tu
open Go.RowKit Go.Proofs.YtdekhhimjnockaaDoorW.PrintWords Go.Proofs.YtdekhhimjnockaaDoorW.PrintLast Go.Proofs.YtdekhhimjnockaaDoorW.PrintMore
open Go.Proofs.YtdekhhimjnockaaDoor Go.Proofs.YtdekhhimjnockaaDoor.Vals Go.Proofs.YtdekhhimjnockaaDoor.Word Go.Proofs.YtdekhhimjnockaaDoor.Q Go.Proofs.YtdekhhimjnockaaDoor.S
set_option linter.unusedVariables false
set_option linter.unusedSimpArgs false

theorem drop_at {l : List UInt8} {i : Nat} {c : UInt8} {r : List UInt8} (h : l.drop i = c :: r) : ∃ hi : i < l.length, l[i] = c ∧ l.drop (i + 1) = r := by
  have hi : i < l.length := by
    rcases Nat.lt_or_ge i l.length with h2 | h2
    · exact h2
    · rw [List.drop_eq_nil_of_le h2] at h; cases h
  rw [List.drop_eq_getElem_cons hi] at h
  injection h with h1 h2
  exact ⟨hi, h1, h2⟩
theorem bt_drop {s : ByteArray} {i : Nat} {c : UInt8} {r : List UInt8} (h : s.data.toList.drop i = c :: r) : i < s.size ∧ bt s (i : Int) = (c.toNat : Int) ∧ s.data.toList.drop (i + 1) = r := by
  obtain ⟨hi, h1, h2⟩ := drop_at h
  have hi2 : i < s.size := by rw [← data_length]; exact hi
  exact ⟨hi2, by rw [bt_is hi2 hi, h1], h2⟩
theorem u8_is {c : UInt8} {n : Nat} (hn : n < 256) : (c.toNat : Int) = (n : Int) ↔ c = UInt8.ofNat n := by
  constructor
  · intro h
    apply UInt8.toNat_inj.1
    rw [UInt8.toNat_ofNat']
    omega
  · rintro rfl
    rw [UInt8.toNat_ofNat']
    omega
theorem mk_app (a b : List UInt8) : (⟨a.toArray⟩ : ByteArray) ++ ⟨b.toArray⟩ = ⟨(a ++ b).toArray⟩ := by
  rw [str_is, str_is, str_is, ← str_append, intsU_app]
theorem ext_one {s : ByteArray} {i : Nat} {c : UInt8} {r : List UInt8} (h : s.data.toList.drop i = c :: r) : s.extract i (i + 1) = ⟨[c].toArray⟩ := by
  obtain ⟨hi, h1, _⟩ := drop_at h
  rw [ext1 hi, h1, str_is]
theorem end_l0 (s : ByteArray) (hs : s.size ≤ 100000) (i : Nat) (c e : UInt8) (r : List UInt8) (h : s.data.toList.drop i = c :: e :: r) (k : Nat) :
    sluicegateref37_end.l0 (k + 1) s (i : Int) = sluicegateref37_end.j1 k s (i : Int) (decide (c = 0) && decide (e = 1)) := by
  obtain ⟨h1, h2, h3⟩ := bt_drop h
  obtain ⟨h4, h5, _⟩ := bt_drop h3
  have q0 : (0 : Int) ≤ (i : Int) := Int.natCast_nonneg _
  have q1 : (0 : Int) ≤ ((i + 1 : Nat) : Int) := Int.natCast_nonneg _
  have hw := w64n h1 (by omega)
  simp only [sluicegateref37_end.l0, hw, h2, h5]
  rw [if_pos (fact_lt h4), if_pos q0, if_pos (fact_lt h1), if_pos q1]
  by_cases hc : c = 0
  · subst hc
    rw [if_pos (by rfl)]
    have he : ((e.toNat : Int) == 1) = decide (e = 1) := by
      by_cases he : e = 1
      · subst he; rfl
      · rw [decide_eq_false he]
        simpa using fun h => he ((u8_is (n := 1) (by decide)).1 h)
    rw [he]
    simp
  · rw [if_neg (u8_zero hc), decide_eq_false hc, Bool.false_and]
theorem end_j1t (s : ByteArray) (hs : s.size ≤ 100000) (i : Nat) (hi : i < s.size) (k : Nat) : sluicegateref37_end.j1 (k + 1) s (i : Int) true = some ((i + 2 : Nat) : Int) := by
  simp only [sluicegateref37_end.j1, if_true]
  rw [show wrap64 ((i : Int) + 2) = ((i + 2 : Nat) : Int) from by unfold wrap64; omega]
theorem end_j1f (s : ByteArray) (hs : s.size ≤ 100000) (i : Nat) (c : UInt8) (r : List UInt8) (h : s.data.toList.drop i = c :: r) (k : Nat) :
    sluicegateref37_end.j1 (k + 1) s (i : Int) false = sluicegateref37_end.l0 k s ((if c = 0 then i + 2 else i + 1 : Nat) : Int) := by
  obtain ⟨h1, h2, _⟩ := bt_drop h
  have q0 : (0 : Int) ≤ (i : Int) := Int.natCast_nonneg _
  have hw := w64n h1 (by omega)
  have hw2 : wrap64 (((i + 1 : Nat) : Int) + 1) = ((i + 2 : Nat) : Int) := by unfold wrap64; omega
  simp only [sluicegateref37_end.j1, hw, hw2, h2]
  rw [if_neg (by decide), if_pos q0, if_pos (fact_lt h1)]
  by_cases hc : c = 0
  · subst hc
    rw [if_pos (by rfl), if_pos rfl]
  · rw [if_neg (u8_zero hc), if_neg hc]
theorem end_out (s : ByteArray) (hs : s.size ≤ 100000) (i : Nat) (hi : s.size ≤ i + 1) (hi2 : i ≤ s.size + 1) (k : Nat) : sluicegateref37_end.l0 (k + 1) s (i : Int) = some 0 := by
  have hw : wrap64 ((i : Int) + 1) = ((i + 1 : Nat) : Int) := by unfold wrap64; omega
  simp only [sluicegateref37_end.l0, hw]
  rw [if_neg (by omega)]
theorem end_tot (s : ByteArray) (hs : s.size ≤ 100000) : ∀ (d i : Nat), s.size - i ≤ d → i ≤ s.size + 1 → ∃ n : Nat, Ev (fun k => sluicegateref37_end.l0 k s (i : Int)) (n : Int) ∧ (n = 0 ∨ (2 ≤ n ∧ n ≤ s.size)) := by
  intro d
  induction d with
  | zero =>
    intro i hd hi
    exact ⟨0, Ev.step (f := fun _ => some 0) (end_out s hs i (by omega) hi) (Ev.now _), Or.inl rfl⟩
  | succ d ih =>
    intro i hd hi
    have hl := data_length s
    by_cases h1 : i + 1 < s.size
    · have hD : s.data.toList.drop i = s.data.toList[i]'(by omega) :: s.data.toList[i + 1]'(by omega) :: s.data.toList.drop (i + 2) := by
        rw [List.drop_eq_getElem_cons (by omega), List.drop_eq_getElem_cons (by omega)]
      generalize s.data.toList[i]'(by omega) = c at hD
      generalize s.data.toList[i + 1]'(by omega) = e at hD
      cases hb : decide (c = 0) && decide (e = 1) with
      | true => exact ⟨i + 2, Ev.step (fun k => by rw [end_l0 s hs i c e _ hD, hb]) (Ev.step (f := fun _ => some ((i + 2 : Nat) : Int)) (end_j1t s hs i (by omega)) (Ev.now _)), Or.inr ⟨by omega, by omega⟩⟩
      | false =>
        have hn : ∃ j, (if c = 0 then i + 2 else i + 1) = j ∧ i + 1 ≤ j ∧ j ≤ i + 2 := ⟨_, rfl, by split <;> omega, by split <;> omega⟩
        obtain ⟨j, hj, h2, h3⟩ := hn
        obtain ⟨n, hn, hb2⟩ := ih j (by omega) (by omega)
        exact ⟨n, Ev.step (fun k => by rw [end_l0 s hs i c e _ hD, hb]) (Ev.step (fun k => by rw [end_j1f s hs i c _ hD, hj]) hn), hb2⟩
    · exact ⟨0, Ev.step (f := fun _ => some 0) (end_out s hs i (by omega) hi) (Ev.now _), Or.inl rfl⟩
theorem end_esc (s : ByteArray) (hs : s.size ≤ 100000) (r : List UInt8) : ∀ (t : List UInt8) (i : Nat), s.data.toList.drop i = escU t ++ 0 :: 1 :: r → Ev (fun k => sluicegateref37_end.l0 k s (i : Int)) ((i + (escU t).length + 2 : Nat) : Int)
  | [], i, h => by
    have h2 : s.data.toList.drop i = 0 :: 1 :: r := h
    exact Ev.step (fun k => by rw [end_l0 s hs i 0 1 _ h2]) (Ev.step (f := fun _ => some ((i + 2 : Nat) : Int)) (end_j1t s hs i (bt_drop h2).1) (Ev.now _))
  | c :: t, i, h => by
    rw [escU_cons] at h ⊢
    by_cases hc : c = 0
    · subst hc
      rw [if_pos rfl] at h ⊢
      have h2 : s.data.toList.drop i = 0 :: 255 :: (escU t ++ 0 :: 1 :: r) := by rw [h]; simp
      have h3 := (bt_drop (bt_drop h2).2.2).2.2
      have ih := end_esc s hs r t (i + 2) h3
      refine Ev.step (fun k => by rw [end_l0 s hs i 0 255 _ h2]) (Ev.step (fun k => by rw [show (decide ((0 : UInt8) = 0) && decide ((255 : UInt8) = 1)) = false from rfl, end_j1f s hs i 0 _ h2, if_pos rfl]) ?_)
      rw [show i + (([0, 255] : List UInt8) ++ escU t).length + 2 = i + 2 + (escU t).length + 2 from by simp; omega]
      exact ih
    · rw [if_neg hc] at h ⊢
      obtain ⟨d, z, hd⟩ := tail_form (escU t) (1 :: r) 0
      have h2 : s.data.toList.drop i = c :: d :: z := by rw [h, List.append_assoc, hd]; rfl
      have h3 := (bt_drop h2).2.2
      rw [← hd] at h3
      have ih := end_esc s hs r t (i + 1) h3
      refine Ev.step (fun k => by rw [end_l0 s hs i c d _ h2]) (Ev.step (fun k => by rw [decide_eq_false hc, Bool.false_and, end_j1f s hs i c _ h2, if_neg hc]) ?_)
      rw [show i + (([c] : List UInt8) ++ escU t).length + 2 = i + 1 + (escU t).length + 2 from by simp; omega]
      exact ih
abbrev Out := List S59 × Bool
theorem e_size (s : ByteArray) {i : Nat} (h : i ≤ s.size) : (s.extract i s.size).size = s.size - i := by rw [← data_length, Lib.extract_to_end, List.length_drop, data_length]
theorem r_l0 (x0 : ByteArray) (x4 : List S59) (x5 : ByteArray) (c : UInt8) (r : List UInt8) (h : x5.data.toList = c :: r) (k : Nat) :
    sluicegateref37_Read.l0 (k + 1) x0 x4 x5 = if c = 1 then sluicegateref37_Read.j1 k x0 x4 x5 0 (decide ((x5.size : Int) ≥ 9)) false 0 (⟨#[]⟩ : ByteArray) else sluicegateref37_Read.j1 k x0 x4 x5 0 false false 0 (⟨#[]⟩ : ByteArray) := by
  obtain ⟨h1, h2, _⟩ := bt_drop (s := x5) (i := 0) (by rw [List.drop_zero]; exact h)
  have q9 : (0 : Int) < (x5.size : Int) := fact_lt h1
  simp only [sluicegateref37_Read.l0]
  rw [if_pos (show (x5.size : Int) > 0 from q9), if_pos q9]
  have h3 : (bt x5 0 = 1) = (c = 1) := propext (by rw [show (0 : Int) = ((0 : Nat) : Int) from rfl, h2]; exact u8_is (n := 1) (by decide))
  simp only [h3]
theorem r_j1f (x0 : ByteArray) (x4 : List S59) (x5 : ByteArray) (n : Int) (a : Bool) (b : Int) (s : ByteArray) (k : Nat) : sluicegateref37_Read.j1 (k + 1) x0 x4 x5 n false a b s = sluicegateref37_Read.j3 k x0 x4 x5 n a b s := by
  simp only [sluicegateref37_Read.j1, Bool.false_eq_true, if_false]
theorem r_j1t (x0 : ByteArray) (x4 : List S59) (x5 : ByteArray) (n : Int) (a : Bool) (b : Int) (s : ByteArray) (k : Nat) : sluicegateref37_Read.j1 (k + 1) x0 x4 x5 n true a b s = sluicegateref37_Read.l1 k x0 x4 x5 9 1 true b s := by
  simp only [sluicegateref37_Read.j1, if_true]
theorem r_j3 (x0 : ByteArray) (x4 : List S59) (x5 : ByteArray) (c : UInt8) (r : List UInt8) (h : x5.data.toList = c :: r) (n : Nat) (a : Bool) (b : Int) (s : ByteArray) (hn : n ≤ x5.size) (h4 : x4.length < 4398046511104) (k : Nat) :
    sluicegateref37_Read.j3 (k + 1) x0 x4 x5 (n : Int) a b s = if c = 2 then ((sluicegateref37_end.f k (x5.extract 1 x5.size)).bind fun t143 => (sluicegateref37_Read.l2 k x0 x4 x5 (wrap64 (t143 + 1)) 1 a b s)) else if n < 2 then some ([], false) else sluicegateref37_Read.l0 k x0 (x4 ++ [⟨a, b, s⟩]) (x5.extract n x5.size) := by
  obtain ⟨h1, h2, _⟩ := bt_drop (s := x5) (i := 0) (by rw [List.drop_zero]; exact h)
  have q1 : (1 : Int) ≤ (x5.size : Int) := by omega
  have q0 : (0 : Int) ≤ (n : Int) := Int.natCast_nonneg _
  have h3 : (bt x5 0 = 2) = (c = 2) := propext (by rw [show (0 : Int) = ((0 : Nat) : Int) from rfl, h2]; exact u8_is (n := 2) (by decide))
  have h5 : ((n : Int) < 2) = (n < 2) := propext (by omega)
  simp only [sluicegateref37_Read.j3, h3, h5, Int.toNat_natCast]
  have q9 : (0 : Int) < (x5.size : Int) := fact_lt h1
  rw [if_pos q9, if_pos q1, if_pos h4, if_pos q0, if_pos (fact_le hn)]
theorem r_l2 (x0 : ByteArray) (x4 : List S59) (x5 : ByteArray) (hs : x5.size ≤ 100000) (n i : Nat) (a : Bool) (b : Int) (s : List UInt8) (hsl : s.length ≤ i) (c : UInt8) (r : List UInt8) (h : x5.data.toList.drop i = c :: r) (hin : i + 2 < n) (k : Nat) :
    sluicegateref37_Read.l2 (k + 1) x0 x4 x5 (n : Int) (i : Int) a b ⟨s.toArray⟩ = sluicegateref37_Read.l2 k x0 x4 x5 (n : Int) ((if c = 0 then i + 2 else i + 1 : Nat) : Int) a b ⟨(s ++ [c]).toArray⟩ := by
  obtain ⟨h1, h2, _⟩ := bt_drop h
  have hx := ext_one h
  have q0 : (0 : Int) ≤ (i : Int) := Int.natCast_nonneg _
  have q2 : (i : Int) ≤ ((i + 1 : Nat) : Int) := fact_le (Nat.le_succ _)
  have q3 : ((i + 1 : Nat) : Int) ≤ (x5.size : Int) := fact_le h1
  have hw := w64n h1 (by omega)
  have hw1 : wrap64 (((i + 1 : Nat) : Int) + 1) = ((i + 2 : Nat) : Int) := by unfold wrap64; omega
  have hw2 : wrap64 ((i : Int) + 2) = ((i + 2 : Nat) : Int) := by unfold wrap64; omega
  have hz : (⟨s.toArray⟩ : ByteArray).size + (⟨[c].toArray⟩ : ByteArray).size ≤ 9223372036854775807 := by
    have e1 : (⟨s.toArray⟩ : ByteArray).size = s.length := by simp [ByteArray.size]
    have e2 : (⟨[c].toArray⟩ : ByteArray).size = 1 := rfl
    omega
  have q4 : ((i + 2 : Nat) : Int) < (n : Int) := fact_lt hin
  simp only [sluicegateref37_Read.l2, hw, hw1, hw2, Int.toNat_natCast, hx, h2]
  rw [if_pos q4, if_pos q0, if_pos q2, if_pos q3, if_pos hz, if_pos (fact_lt h1), mk_app]
  by_cases hc : c = 0
  · subst hc
    rw [if_pos (by rfl), if_pos rfl]
  · rw [if_neg (u8_zero hc), if_neg hc]
theorem r_l2end (x0 : ByteArray) (x4 : List S59) (x5 : ByteArray) (n i : Nat) (hi : i ≤ 1000000) (a : Bool) (b : Int) (s : ByteArray) (hin : ¬ i + 2 < n) (hn : n ≤ x5.size) (h4 : x4.length < 4398046511104) (k : Nat) :
    sluicegateref37_Read.l2 (k + 1) x0 x4 x5 (n : Int) (i : Int) a b s = if n < 2 then some ([], false) else sluicegateref37_Read.l0 k x0 (x4 ++ [⟨a, b, s⟩]) (x5.extract n x5.size) := by
  have hw2 : wrap64 ((i : Int) + 2) = ((i + 2 : Nat) : Int) := by unfold wrap64; omega
  have q0 : (0 : Int) ≤ (n : Int) := Int.natCast_nonneg _
  have q4 : ¬ ((i + 2 : Nat) : Int) < (n : Int) := by omega
  have h5 : ((n : Int) < 2) = (n < 2) := propext (by omega)
  simp only [sluicegateref37_Read.l2, hw2, h5, Int.toNat_natCast]
  rw [if_neg q4, if_pos h4, if_pos q0, if_pos (fact_le hn)]
theorem r_l1 (x0 : ByteArray) (x4 : List S59) (x5 : ByteArray) (r : List UInt8) (h : x5.data.toList = 1 :: r) (h8 : 8 ≤ r.length) (hs : x5.size ≤ 100000) (a : Bool) (s : ByteArray) (R : Out)
    (hf : Ev (fun k => sluicegateref37_Read.j3 k x0 x4 x5 9 a (num (intsU (r.take 8))) s) R) :
    ∀ (d i : Nat), 8 - i = d → i ≤ 8 → Ev (fun k => sluicegateref37_Read.l1 k x0 x4 x5 9 ((i + 1 : Nat) : Int) a (num (intsU (r.take i))) s) R := by
  intro d
  induction d with
  | zero =>
    intro i hd hi
    obtain rfl : i = 8 := by omega
    refine Ev.step (fun k => ?_) hf
    simp only [sluicegateref37_Read.l1]
    rw [if_neg (by decide)]
  | succ d ih =>
    intro i hd hi
    have hl := data_length x5
    rw [h, List.length_cons] at hl
    have hir : i < r.length := by omega
    have hD : x5.data.toList.drop (i + 1) = r[i] :: r.drop (i + 1) := by rw [h, List.drop_succ_cons, List.drop_eq_getElem_cons hir]
    obtain ⟨h1, h2, _⟩ := bt_drop hD
    have ih1 := ih (i + 1) (by omega) (by omega)
    rw [List.take_succ_eq_append_getElem hir, intsU_app, show intsU [r[i]] = [((r[i]).toNat : Int)] from rfl, num_snoc] at ih1
    have hb := num_lt (intsU (r.take i)) (intsU_byte _)
    have hp : (256 : Int) ^ (intsU (r.take i)).length ≤ 72057594037927936 := by
      have e : (intsU (r.take i)).length = i := by unfold intsU; rw [List.length_map, List.length_take]; omega
      rw [e]
      have h7 : (256 : Nat) ^ i ≤ 256 ^ 7 := Nat.pow_le_pow_right (by decide) (by omega)
      have h8 : (((256 : Nat) ^ i : Nat) : Int) = (256 : Int) ^ i := by rw [Int.natCast_pow]; rfl
      rw [← h8]
      have h9 : (256 : Nat) ^ 7 = 72057594037927936 := rfl
      omega
    have hc := (r[i]).toNat_lt
    generalize (r[i]).toNat = c at h2 ih1 hc
    generalize num (intsU (r.take i)) = N at ih1 hb ⊢
    have hw : IntKind.u64.wrap (IntKind.u64.wrap (256 * N) + IntKind.u64.wrap (c : Int)) = N * 256 + (c : Int) := by
      have e1 : IntKind.u64.wrap (256 * N) = 256 * N := by simp [IntKind.wrap, IntKind.signed, IntKind.bits]; omega
      have e2 : IntKind.u64.wrap (c : Int) = (c : Int) := by simp [IntKind.wrap, IntKind.signed, IntKind.bits]; omega
      rw [e1, e2]
      simp [IntKind.wrap, IntKind.signed, IntKind.bits]
      omega
    have q1 : ((i + 1 : Nat) : Int) < 9 := by omega
    have q0 : (0 : Int) ≤ ((i + 1 : Nat) : Int) := Int.natCast_nonneg _
    refine Ev.step (fun k => ?_) ih1
    have hw1 := w64n h1 (by omega)
    simp only [sluicegateref37_Read.l1, hw1, h2, hw]
    rw [if_pos q1, if_pos q0, if_pos (fact_lt h1)]
end Go.Proofs.YtdekhhimjnockaaDoor.Tu
