/- The law of a script's bytes: no program. -/
import Derived.Test.YtfpdapdnmkadeaaWireOT
import Derived.Test.YtfpdapdnmkadeaaWireAns
namespace Go.Proofs.Ytfpdapdnmkadeaa.Wire
open Go.RowKit Go.Proofs.YtfpdapdnmkadeaaW.PrintWords Go.Proofs.YtfpdapdnmkadeaaW.PrintLast Go.Proofs.YtfpdapdnmkadeaaW.PrintMore
open Go.Proofs.Ytfpdapdnmkadeaa Go.Proofs.Ytfpdapdnmkadeaa.Vals Go.Proofs.Ytfpdapdnmkadeaa.Word Go.Proofs.Ytfpdapdnmkadeaa.Q
open Go.Proofs.Ytfpdapdnmkadeaa.O (S52 k52 z52 rd_T52 at_T52)
set_option linter.unusedVariables false
set_option linter.unusedSimpArgs false

theorem nil_iff (s : ByteArray) : s.toList = [] ↔ s.size = 0 := by
  rw [Lib.toList_data, ← List.length_eq_zero_iff, data_length]
theorem size_zero {s : ByteArray} (h : s.size = 0) : s = ⟨#[]⟩ := by
  apply ByteArray.ext
  apply Array.eq_empty_of_size_eq_zero
  exact h
def mayR (K : Int) (s t : ByteArray) (n : Int) : Prop :=
  1 ≤ K ∧ K ≤ 7 ∧ s.size ≤ 255 ∧ (K = 1 → t.size ≤ 65535 ∧ n = 0) ∧ (K = 2 ∨ K = 3 → t.size = 0 ∧ n = 0) ∧ (K = 4 → t.size ≤ 255 ∧ 0 ≤ n ∧ n ≤ 2147483647) ∧ (5 ≤ K → s.size = 0 ∧ t.size = 0 ∧ n = 0)
instance (K : Int) (s t : ByteArray) (n : Int) : Decidable (mayR K s t n) := by unfold mayR; infer_instance
def may (o : S52) : Prop := mayR o.f0 o.f1 o.f2 o.f3
instance (o : S52) : Decidable (may o) := by unfold may; infer_instance
def encR (K : Int) (s t : ByteArray) (n : Int) : List Int := be 1 K ++ (if K = 1 then encT 1 s ++ encT 2 t else if K = 2 ∨ K = 3 then encT 1 s else if K = 4 then encT 1 s ++ encT 1 t ++ be 4 n else [])
def encO (o : S52) : List Int := encR o.f0 o.f1 o.f2 o.f3
def encOs : List S52 → List Int
  | [] => []
  | o :: t => encO o ++ encOs t
def encS (l : List S52) : List Int := be 4 (l.length : Int) ++ encOs l
def all (l : List S52) : Prop := ∀ o ∈ l, may o
instance (l : List S52) : Decidable (all l) := by unfold all; infer_instance

theorem restBad_is (s v : ByteArray) (n : Int) : restBad s v n = !decide (s.size = 0 ∧ v.size = 0 ∧ n = 0) := by
  unfold restBad
  congr 1
  rw [Bool.eq_iff_iff]
  simp only [Bool.and_eq_true, beq_iff_eq, decide_eq_true_eq, nil_iff]
theorem tBad_is (m : Int) (s : ByteArray) (b : Bool) : tBad m s b = (b || decide (m < (s.size : Int))) := by
  unfold tBad
  split <;> rename_i h <;> simp [h]
theorem may1 {s t : ByteArray} {n : Int} : mayR 1 s t n ↔ s.size ≤ 255 ∧ t.size ≤ 65535 ∧ n = 0 := by simp [mayR]
theorem may23 {K : Int} (h : K = 2 ∨ K = 3) {s t : ByteArray} {n : Int} : mayR K s t n ↔ s.size ≤ 255 ∧ t.size = 0 ∧ n = 0 := by rcases h with rfl | rfl <;> simp [mayR]
theorem may4 {s t : ByteArray} {n : Int} : mayR 4 s t n ↔ s.size ≤ 255 ∧ t.size ≤ 255 ∧ 0 ≤ n ∧ n ≤ 2147483647 := by simp [mayR]
theorem may5 {K : Int} (h : K = 5 ∨ K = 6 ∨ K = 7) {s t : ByteArray} {n : Int} : mayR K s t n ↔ s.size = 0 ∧ t.size = 0 ∧ n = 0 := by
  unfold mayR
  constructor
  · intro h1
    exact h1.2.2.2.2.2.2 (by omega)
  · intro h1
    exact ⟨by omega, by omega, by omega, fun h => by omega, fun h => by omega, fun h => by omega, fun _ => h1⟩
theorem oBad_is (o : S52) (bad : Bool) : oBad o bad = (bad || !decide (may o)) := by
  obtain ⟨K, s, t, n⟩ := o
  have hz : (⟨#[]⟩ : ByteArray).size = 0 := rfl
  rw [Bool.eq_iff_iff]
  unfold oBad may
  simp only [restBad_is, tBad_is, hz]
  by_cases k1 : K = 1
  · subst k1
    rw [if_pos rfl]
    simp only [may1, Bool.or_eq_true, Bool.not_eq_true', decide_eq_true_eq, decide_eq_false_iff_not]
    by_cases hP : bad = true
    · simp only [hP, true_or]
    · simp only [hP, Bool.false_eq_true, false_or, true_and]
      omega
  · rw [if_neg k1]
    by_cases k2 : K = 2 ∨ K = 3
    · rw [if_pos k2]
      simp only [may23 k2, Bool.or_eq_true, Bool.not_eq_true', decide_eq_true_eq, decide_eq_false_iff_not]
      by_cases hP : bad = true
      · simp only [hP, true_or]
      · simp only [hP, Bool.false_eq_true, false_or, true_and]
        omega
    · rw [if_neg k2]
      by_cases k4 : K = 4
      · subst k4
        rw [if_pos rfl]
        simp only [may4, Bool.or_eq_true, Bool.not_eq_true', decide_eq_true_eq, decide_eq_false_iff_not]
        by_cases hP : bad = true
        · simp only [hP, true_or]
        · simp only [hP, Bool.false_eq_true, false_or, true_and]
          omega
      · rw [if_neg k4]
        by_cases k5 : K = 5 ∨ K = 6 ∨ K = 7
        · rw [if_pos k5]
          simp only [may5 k5, Bool.or_eq_true, Bool.not_eq_true', decide_eq_true_eq, decide_eq_false_iff_not]
        · rw [if_neg k5]
          have hno : ¬ mayR K s t n := fun h => by have h1 := h.1; have h2 := h.2.1; omega
          simp [hno]
theorem osBad_is : ∀ (l : List S52) (bad : Bool), osBad l bad = (bad || !decide (all l))
  | [], bad => by simp [osBad, all]
  | o :: t, bad => by
    show osBad t (oBad o bad) = _
    rw [osBad_is t, oBad_is, Bool.or_assoc]
    congr 1
    rw [Bool.eq_iff_iff]
    simp only [Bool.or_eq_true, Bool.not_eq_true', decide_eq_false_iff_not]
    unfold all
    simp only [List.forall_mem_cons]
    by_cases h1 : may o <;> simp [h1]
theorem sBad_is (l : List S52) : sBad l = !decide (all l) := by unfold sBad; rw [osBad_is, Bool.false_or]
theorem wrapU {n : Int} (h : 0 ≤ n) (h2 : n ≤ 2147483647) : IntKind.u64.wrap n = n := by simp [IntKind.wrap, IntKind.signed, IntKind.bits]; omega
theorem tB_fit {k : Nat} {m : Int} {s : ByteArray} (bs : List Int) (h : ¬ m < (s.size : Int)) : tB k m s bs = bs ++ encT k s := by unfold tB encT; rw [if_neg h, List.append_assoc]
theorem oB_may {o : S52} (h : may o) (bs : List Int) : oB o bs = bs ++ encO o := by
  obtain ⟨K, s, t, n⟩ := o
  obtain ⟨h1, h2, h3, h4, h5, h6, h7⟩ := h
  simp only at h1 h2 h3 h4 h5 h6 h7
  unfold oB encO encR
  simp only
  rw [wrapU (by omega) (by omega)]
  split
  · rw [tB_fit _ (by omega), tB_fit _ (by omega)]; simp
  · split
    · rw [tB_fit _ (by omega)]; simp
    · split
      · rw [tB_fit _ (by omega), tB_fit _ (by omega), wrapU (by omega) (by omega)]; simp
      · simp
theorem osB_all : ∀ (l : List S52) (bs : List Int), all l → osB l bs = bs ++ encOs l
  | [], bs, _ => by simp [osB, encOs]
  | o :: t, bs, h => by
    show osB t (oB o bs) = _
    rw [osB_all t _ (fun q hq => h q (by simp [hq])), oB_may (h o (by simp))]
    simp [encOs]
theorem sB_all {l : List S52} (h : all l) : sB l = encS l := by unfold sB encS; exact osB_all l _ h

/-! Reading what was written. -/
theorem rdOp_app {o : S52} (h : may o) (r : List Int) : rdOp (encO o ++ r) 0 = (o, r, 0, true) := by
  obtain ⟨K, s, t, n⟩ := o
  obtain ⟨h1, h2, h3, h4, h5, h6, h7⟩ := h
  simp only at h1 h2 h3 h4 h5 h6 h7
  unfold encO encR
  simp only
  rw [List.append_assoc]
  obtain ⟨a1, a2, a3⟩ := raw_app (r := (if K = 1 then encT 1 s ++ encT 2 t else if K = 2 ∨ K = 3 then encT 1 s else if K = 4 then encT 1 s ++ encT 1 t ++ be 4 n else []) ++ r) (be_length 1 K)
  unfold rdOp
  rw [a1, a2, a3, num_be' (by omega) (by omega)]
  unfold rdK
  by_cases k1 : K = 1
  · obtain ⟨g1, rfl⟩ := h4 k1
    simp only [if_pos k1]
    rw [List.append_assoc]
    obtain ⟨c1, c2, c3⟩ := rd_app (k := 1) s (encT 2 t ++ r) (by omega)
    obtain ⟨d1, d2, d3⟩ := rd_app (k := 2) t r (by omega)
    rw [c1, c2, c3, d1, d2, d3]
    rfl
  · simp only [if_neg k1]
    by_cases k2 : K = 2 ∨ K = 3
    · obtain ⟨g1, rfl⟩ := h5 k2
      simp only [if_pos k2]
      obtain ⟨c1, c2, c3⟩ := rd_app (k := 1) s r (by omega)
      rw [c1, c2, c3, size_zero g1]
      rfl
    · simp only [if_neg k2]
      by_cases k4 : K = 4
      · obtain ⟨g1, g2, g3⟩ := h6 k4
        simp only [if_pos k4]
        rw [List.append_assoc, List.append_assoc]
        obtain ⟨c1, c2, c3⟩ := rd_app (k := 1) s (encT 1 t ++ (be 4 n ++ r)) (by omega)
        obtain ⟨d1, d2, d3⟩ := rd_app (k := 1) t (be 4 n ++ r) (by omega)
        obtain ⟨e1, e2, e3⟩ := raw_app (r := r) (be_length 4 n)
        rw [c1, c2, c3, d1, d2, d3, e1, e2, e3, num_be' (by omega) (by omega), decide_eq_true g3]
        rfl
      · simp only [if_neg k4]
        obtain ⟨g1, g2, rfl⟩ := h7 (by omega)
        rw [if_pos (by omega), size_zero g1, size_zero g2]
        rfl
theorem rOs_app : ∀ (l : List S52) (r : List Int), all l → rOs l.length (encOs l ++ r) 0 = some (l, r, 0)
  | [], r, _ => by simp [rOs, encOs]
  | o :: t, r, h => by
    rw [List.length_cons]
    unfold rOs encOs
    rw [List.append_assoc, rdOp_app (h o (by simp))]
    simp only [if_true, rOs_app t r (fun q hq => h q (by simp [hq]))]
    rfl
theorem okO_enc {l : List S52} (h : all l) (hl : l.length ≤ 65536) : okO (encS l) l := by
  unfold okO nO encS
  obtain ⟨a1, a2, a3⟩ := raw_app (r := encOs l) (be_length 4 (l.length : Int))
  rw [a1, a2, a3, num_be' (by omega) (by omega)]
  have h1 := rOs_app l [] h
  rw [List.append_nil] at h1
  exact ⟨by omega, h1⟩

/-! What was read is written so. -/
theorem be_one {K : Int} {bs : List Int} (hb : Byte bs) (hk : 1 ≤ bs.length) (hK : num (bs.take 1) = K) : be 1 K ++ bs.drop 1 = bs := by
  rw [← hK, be_take hb hk, List.take_append_drop]
theorem rdOp_back {bs b' : List Int} {e e' : Int} {o : S52} (hb : Byte bs) (h : rdOp bs e = (o, b', e', true)) : e = 0 ∧ e' = 0 ∧ may o ∧ bs = encO o ++ b' := by
  have hb1 : Byte (rawB bs e ((1 : Nat) : Int)) := hb.rawB _ _
  have hstart : rawE bs e ((1 : Nat) : Int) = 0 → e = 0 ∧ num (rawO bs e ((1 : Nat) : Int)) ≤ 255 ∧ 0 ≤ num (rawO bs e ((1 : Nat) : Int)) ∧ be 1 (num (rawO bs e ((1 : Nat) : Int))) ++ rawB bs e ((1 : Nat) : Int) = bs := by
    intro h0
    obtain ⟨g1, g2, g3, g4⟩ := raw_back h0
    have hE := num_lt (bs.take 1) (hb.take 1)
    rw [List.length_take, Nat.min_eq_left g2] at hE
    rw [g3, g4]
    exact ⟨g1, by have := hE.2; omega, hE.1, be_one hb g2 rfl⟩
  unfold rdOp at h
  generalize num (rawO bs e ((1 : Nat) : Int)) = K at h hstart
  generalize rawB bs e ((1 : Nat) : Int) = c at h hstart hb1
  generalize rawE bs e ((1 : Nat) : Int) = f at h hstart
  unfold rdK at h
  by_cases k1 : K = 1
  · rw [if_pos k1] at h
    simp only [Prod.mk.injEq, beq_iff_eq] at h
    obtain ⟨rfl, rfl, rfl, h4⟩ := h
    obtain ⟨i1, i2, i3⟩ := rd_back (rdB_byte hb1) h4
    obtain ⟨j1, j2, j3⟩ := rd_back hb1 i1
    obtain ⟨s1, s2, s3, s4⟩ := hstart j1
    refine ⟨s1, h4, ?_, ?_⟩
    · show mayR K _ _ _
      rw [k1]
      exact may1.2 ⟨by show (rdS 1 c f).size ≤ 255; omega, by show (rdS 2 (rdB 1 c f) (rdE 1 c f)).size ≤ 65535; omega, rfl⟩
    · unfold encO encR
      simp only [if_pos k1]
      rw [List.append_assoc, List.append_assoc, ← i2, ← j2, s4]
  · rw [if_neg k1] at h
    by_cases k2 : K = 2 ∨ K = 3
    · rw [if_pos k2] at h
      simp only [Prod.mk.injEq, beq_iff_eq] at h
      obtain ⟨rfl, rfl, rfl, h4⟩ := h
      obtain ⟨j1, j2, j3⟩ := rd_back hb1 h4
      obtain ⟨s1, s2, s3, s4⟩ := hstart j1
      refine ⟨s1, h4, ?_, ?_⟩
      · exact (may23 k2).2 ⟨by show (rdS 1 c f).size ≤ 255; omega, rfl, rfl⟩
      · unfold encO encR
        simp only [if_neg k1, if_pos k2]
        rw [List.append_assoc, ← j2, s4]
    · rw [if_neg k2] at h
      by_cases k4 : K = 4
      · rw [if_pos k4] at h
        simp only [Prod.mk.injEq, Bool.and_eq_true, decide_eq_true_eq, beq_iff_eq] at h
        obtain ⟨rfl, rfl, rfl, h4, h5⟩ := h
        obtain ⟨m1, m2, m3, m4⟩ := raw_back h5
        obtain ⟨i1, i2, i3⟩ := rd_back (rdB_byte hb1) m1
        obtain ⟨j1, j2, j3⟩ := rd_back hb1 i1
        obtain ⟨s1, s2, s3, s4⟩ := hstart j1
        have hb3 : Byte (rdB 1 (rdB 1 c f) (rdE 1 c f)) := rdB_byte (rdB_byte hb1)
        have hn := num_lt ((rdB 1 (rdB 1 c f) (rdE 1 c f)).take 4) (hb3.take 4)
        rw [m3] at h4
        refine ⟨s1, h5, ?_, ?_⟩
        · show mayR K _ _ _
          rw [k4]
          refine may4.2 ⟨by show (rdS 1 c f).size ≤ 255; omega, by show (rdS 1 (rdB 1 c f) (rdE 1 c f)).size ≤ 255; omega, ?_, ?_⟩
          · rw [m3]; exact hn.1
          · rw [m3]; exact h4
        · unfold encO encR
          simp only [if_neg k1, if_neg k2, if_pos k4]
          rw [m3, m4, be_take hb3 m2, List.append_assoc, List.append_assoc, List.append_assoc, List.take_append_drop, ← i2, ← j2, s4]
      · rw [if_neg k4] at h
        by_cases k5 : K = 5 ∨ K = 6 ∨ K = 7
        · rw [if_pos k5] at h
          simp only [Prod.mk.injEq, beq_iff_eq] at h
          obtain ⟨rfl, rfl, rfl, h4⟩ := h
          obtain ⟨s1, s2, s3, s4⟩ := hstart h4
          refine ⟨s1, h4, ?_, ?_⟩
          · exact (may5 k5).2 ⟨rfl, rfl, rfl⟩
          · unfold encO encR
            simp only [if_neg k1, if_neg k2, if_neg k4]
            rw [List.append_nil, s4]
        · rw [if_neg k5] at h
          simp at h
theorem rOs_back : ∀ (n : Nat) (bs : List Int) (e : Int) (l : List S52) (r : List Int), Byte bs → rOs n bs e = some (l, r, 0) → e = 0 ∧ l.length = n ∧ all l ∧ bs = encOs l ++ r
  | 0, bs, e, l, r, hb, h => by
    simp only [rOs, Option.some.injEq, Prod.mk.injEq] at h
    obtain ⟨rfl, rfl, rfl⟩ := h
    exact ⟨rfl, rfl, fun q hq => by simp at hq, by simp [encOs]⟩
  | n + 1, bs, e, l, r, hb, h => by
    have hy := rdOp_byte (e := e) hb
    unfold rOs at h
    obtain ⟨⟨o, b', e', ok⟩, hr⟩ : ∃ x, rdOp bs e = x := ⟨_, rfl⟩
    rw [hr] at h hy
    simp only at h hy
    cases ok
    · simp at h
    · rw [if_pos rfl] at h
      obtain ⟨⟨l2, x⟩, h1, h2⟩ := Option.map_eq_some_iff.1 h
      simp only [Prod.mk.injEq] at h2
      obtain ⟨rfl, rfl⟩ := h2
      obtain ⟨i1, i2, i3, i4⟩ := rOs_back n b' e' l2 r hy h1
      obtain ⟨j1, j2, j3, j4⟩ := rdOp_back hb hr
      refine ⟨j1, by rw [List.length_cons, i2], fun q hq => by rcases List.mem_cons.1 hq with rfl | hq; exact j3; exact i3 q hq, ?_⟩
      unfold encOs
      rw [List.append_assoc, ← i4, ← j4]
theorem okO_back {b : List Int} {l : List S52} (hb : Byte b) (h : okO b l) : all l ∧ encS l = b ∧ l.length ≤ 65536 := by
  obtain ⟨h1, h2⟩ := h
  have hy : Byte (rawB b 0 ((4 : Nat) : Int)) := hb.rawB _ _
  obtain ⟨i1, i2, i3, i4⟩ := rOs_back _ _ _ _ _ hy h2
  obtain ⟨_, m2, m3, m4⟩ := raw_back i1
  have hn4 : ((nO b : Nat) : Int) = num (b.take 4) := by
    unfold nO
    rw [m3]
    have := (num_lt (b.take 4) (hb.take 4)).1
    omega
  refine ⟨i3, ?_, by rw [i2]; exact h1⟩
  unfold encS
  rw [List.append_nil] at i4
  rw [i2, hn4, be_take hb m2, ← i4, m4, List.take_append_drop]
theorem byte_encO (o : S52) : Byte (encO o) := by
  unfold encO encR
  refine Byte.app (byte_be _ _) ?_
  split
  · exact Byte.app (byte_encT _ _) (byte_encT _ _)
  · split
    · exact byte_encT _ _
    · split
      · exact Byte.app (Byte.app (byte_encT _ _) (byte_encT _ _)) (byte_be _ _)
      · exact Byte.nil
theorem byte_encS (l : List S52) : Byte (encS l) := by
  unfold encS
  refine Byte.app (byte_be _ _) ?_
  induction l with
  | nil => exact Byte.nil
  | cons o t ih => exact Byte.app (byte_encO o) ih
theorem encS_len {l : List S52} (h : all l) : (encS l).length ≤ 4 + 65800 * l.length := by
  rw [← sB_all h]
  unfold sB
  have := osB_len l (be 4 (l.length : Int))
  rw [be_length] at this
  exact this
end Go.Proofs.Ytfpdapdnmkadeaa.Wire
