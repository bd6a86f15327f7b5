/- What the document's functions come to: plain. -/
import Derived.Test.YtdekhhimjnockaaDoorTuLaw
import Derived.Test.YtdekhhimjnockaaDoorS1
namespace Go.Proofs.YtdekhhimjnockaaDoor.Tu
open Go.RowKit Go.Proofs.YtdekhhimjnockaaDoorW.PrintWords Go.Proofs.YtdekhhimjnockaaDoorW.PrintLast Go.Proofs.YtdekhhimjnockaaDoorW.PrintMore
open Go.Proofs.YtdekhhimjnockaaDoor Go.Proofs.YtdekhhimjnockaaDoor.Vals Go.Proofs.YtdekhhimjnockaaDoor.Word Go.Proofs.YtdekhhimjnockaaDoor.Q Go.Proofs.YtdekhhimjnockaaDoor.S
set_option linter.unusedVariables false
set_option linter.unusedSimpArgs false

def to59 (p : S45) : S59 := ⟨p.f0, p.f1, p.f2⟩
def to45 (p : S59) : S45 := ⟨p.f0, p.f1, p.f2⟩
theorem to45_59 (l : List S45) : (l.map to59).map to45 = l := by
  rw [List.map_map]
  conv => rhs; rw [← List.map_id l]
  rfl
theorem to59_45 (l : List S59) : (l.map to45).map to59 = l := by
  rw [List.map_map]
  conv => rhs; rw [← List.map_id l]
  rfl
theorem w64n {i n : Nat} (h : i < n) (hn : n ≤ 140737488355328) : wrap64 ((i : Int) + 1) = ((i + 1 : Nat) : Int) := by
  unfold wrap64
  omega
theorem rd59 {l : List S59} {i : Nat} (h : i < l.length) : rd_T59 l (i : Int) = l[i] := by
  unfold rd_T59
  rw [Int.toNat_natCast, List.getD_eq_getElem?_getD, List.getElem?_eq_getElem h]
  rfl
theorem rd45 {l : List S45} {i : Nat} (h : i < l.length) : rd_T45 l (i : Int) = l[i] := by
  unfold rd_T45
  rw [Int.toNat_natCast, List.getD_eq_getElem?_getD, List.getElem?_eq_getElem h]
  rfl
theorem as_ev (l : List S45) (hl : l.length ≤ 100000) : Ev (fun k => sluicegatelaw37_As.f k l) (l.map to59) := by
  have main : ∀ (d i : Nat), l.length - i = d → i ≤ l.length → Ev (fun k => sluicegatelaw37_As.l0 k l ((l.take i).map to59) (i : Int)) (l.map to59) := by
    intro d
    induction d with
    | zero =>
      intro i hd hi
      refine Ev.step (f := fun k => some ((l.take i).map to59)) (fun k => by simp only [sluicegatelaw37_As.l0]; rw [if_neg (by omega)]) ?_
      rw [List.take_of_length_le (by omega)]
      exact Ev.now _
    | succ d ih =>
      intro i hd hi
      have hi2 : i < l.length := by omega
      have ih1 := ih (i + 1) (by omega) (by omega)
      rw [List.take_succ_eq_append_getElem hi2, List.map_append] at ih1
      have hlen : ((l.take i).map to59).length < 4398046511104 := by rw [List.length_map, List.length_take]; omega
      refine Ev.step (f := fun k => sluicegatelaw37_As.l0 k l ((l.take i).map to59 ++ [to59 l[i]]) (wrap64 ((i : Int) + 1))) (fun k => by
        simp only [sluicegatelaw37_As.l0]; rw [if_pos (by omega), if_pos (by omega), if_pos hlen, rd45 hi2]; rfl) ?_
      rw [w64n (n := l.length) hi2 (by omega)]
      exact ih1
  exact main _ 0 rfl (by omega)
theorem may_ev (l : List S59) (hl : l.length ≤ 100000) : Ev (fun k => sluicegateref37_May.f k l) ((l.map to45).all mayP) := by
  have main : ∀ (d i : Nat), l.length - i = d → i ≤ l.length → Ev (fun k => sluicegateref37_May.l0 k l (i : Int)) (((l.drop i).map to45).all mayP) := by
    intro d
    induction d with
    | zero =>
      intro i hd hi
      refine Ev.step (f := fun k => some true) (fun k => by simp only [sluicegateref37_May.l0]; rw [if_neg (by omega)]) ?_
      rw [List.drop_eq_nil_of_le (by omega)]
      exact Ev.now _
    | succ d ih =>
      intro i hd hi
      have hi2 : i < l.length := by omega
      have ih1 := ih (i + 1) (by omega) (by omega)
      rw [List.drop_eq_getElem_cons hi2, List.map_cons, List.all_cons]
      refine Ev.step (f := fun k => if mayP (to45 l[i]) = true then sluicegateref37_May.l0 k l (wrap64 ((i : Int) + 1)) else some false) (fun k => by
        simp only [sluicegateref37_May.l0]; rw [if_pos (by omega), if_pos (by omega), rd59 hi2]
        obtain ⟨f0, f1, f2⟩ := l[i]
        cases f0
        · by_cases h : f1 = 0
          · simp [mayP, to45, h]
          · simp [mayP, to45, h]
        · by_cases h : f2.toList = []
          · simp [mayP, to45, h]
          · simp [mayP, to45, h]) ?_
      rw [w64n (n := l.length) hi2 (by omega)]
      by_cases hm : mayP (to45 l[i]) = true
      · rw [hm, Bool.true_and]
        exact ih1
      · have hf : mayP (to45 l[i]) = false := by simpa using hm
        rw [hf]
        exact Ev.now _
  have h := main _ 0 rfl (by omega)
  rw [List.drop_zero] at h
  exact h
theorem str1 (c : UInt8) : (⟨#[c]⟩ : ByteArray) = strOfNums [(c.toNat : Int)] := by
  apply ByteArray.ext
  apply Array.toList_inj.1
  rw [strOfNums_data]
  simp
theorem str_is (l : List UInt8) : (⟨l.toArray⟩ : ByteArray) = strOfNums (intsU l) := by
  apply ByteArray.ext
  apply Array.toList_inj.1
  rw [strOfNums_data]
  exact (toU_intsU l).symm
theorem ext1 {s : ByteArray} {i : Nat} (h : i < s.data.toList.length) : s.extract i (i + 1) = strOfNums (intsU [s.data.toList[i]]) := by
  apply ByteArray.ext
  apply Array.toList_inj.1
  rw [strOfNums_data, Lib.extract_data, List.drop_eq_getElem_cons h, show i + 1 - i = 1 from by omega]
  exact (toU_intsU [s.data.toList[i]]).symm
theorem bytes8_ev {x : Int} (h : OkP ⟨true, x, ⟨#[]⟩⟩) : Ev (fun k => sluicegateref02_Bytes.f k 8 x) (be 8 x) :=
  Ev.of (k := 9) (fun k => sluicegateref02_Bytes.mono _ _ k) (bytes_wide 8 x (by unfold wide; omega) h.1 h.2.1)
theorem intsU_app (a b : List UInt8) : intsU (a ++ b) = intsU a ++ intsU b := List.map_append
theorem fact_lt {i n : Nat} (h : i < n) : (i : Int) < (n : Int) := Int.ofNat_lt.2 h
theorem fact_le {i n : Nat} (h : i ≤ n) : (i : Int) ≤ (n : Int) := Int.ofNat_le.2 h
theorem u8_zero {c : UInt8} (h : c ≠ 0) : ¬ ((c.toNat : Int) = 0) := fun e => h (UInt8.toNat_inj.1 (by have : (0 : UInt8).toNat = 0 := rfl; omega))
theorem sz_two (A E : List Int) (c : UInt8) (n : Nat) (h : A.length + E.length + 2 + n ≤ 9223372036854775807) : (strOfNums (A ++ 2 :: E)).size + (strOfNums (intsU [c])).size ≤ 9223372036854775807 ∧ (strOfNums (A ++ 2 :: E) ++ strOfNums (intsU [c])).size + n ≤ 9223372036854775807 := by
  rw [← str_append, strOfNums_size, strOfNums_size, strOfNums_size]
  have h1 : (intsU [c]).length = 1 := rfl
  simp only [List.length_append, List.length_cons, h1]
  omega
theorem key_round0 (l : List S59) (i : Nat) (f1 : Int) (f2 : ByteArray) (hi : i < l.length) (hrd : rd_T59 l (i : Int) = ⟨false, f1, f2⟩) (j : Nat) (hj : j < f2.size) (hf : f2.size ≤ 100000) (hj2 : j < f2.data.toList.length) (A E : List Int) (hn : A.length + E.length + 2 + 1 ≤ 9223372036854775807) (k : Nat) :
    sluicegateref37_Key.l1 (k + 1) l (strOfNums (A ++ 2 :: E)) (i : Int) (j : Int) = if f2.data.toList[j] = 0 then sluicegateref37_Key.l1 k l (strOfNums ((A ++ 2 :: E) ++ intsU [f2.data.toList[j]] ++ [255])) (i : Int) ((j + 1 : Nat) : Int) else sluicegateref37_Key.l1 k l (strOfNums ((A ++ 2 :: E) ++ intsU [f2.data.toList[j]])) (i : Int) ((j + 1 : Nat) : Int) := by
  have q0 : (0 : Int) ≤ (i : Int) := Int.natCast_nonneg _
  have q1 : (i : Int) < (l.length : Int) := fact_lt hi
  have q2 : (j : Int) < (f2.size : Int) := fact_lt hj
  have q3 : (0 : Int) ≤ (j : Int) := Int.natCast_nonneg _
  have q4 : (j : Int) ≤ ((j + 1 : Nat) : Int) := fact_le (Nat.le_succ _)
  have q5 : ((j + 1 : Nat) : Int) ≤ (f2.size : Int) := fact_le hj
  have hw := w64n hj (by omega)
  have hxe := ext1 hj2
  have hbt : bt f2 (j : Int) = ((f2.data.toList[j]).toNat : Int) := bt_is hj hj2
  generalize f2.data.toList[j] = c at hxe hbt ⊢
  obtain ⟨z1, z2⟩ := sz_two A E c 1 hn
  clear hn hf
  simp only [sluicegateref37_Key.l1, hrd, hw, Int.toNat_natCast, hxe, hbt]
  rw [if_pos q0, if_pos q1, if_pos q2, if_pos q3, if_pos q4, if_pos q5, if_pos z1]
  by_cases hc : c = 0
  · subst hc
    rw [if_pos rfl, if_pos (show ((UInt8.toNat 0 : Nat) : Int) = 0 from rfl), if_pos z2, str1 255, ← str_append, ← str_append]
    rfl
  · rw [if_neg (u8_zero hc), if_neg hc, ← str_append]
theorem key_text (l : List S59) (hl : l.length ≤ 100000) (i : Nat) (hi : i < l.length) (f1 : Int) (f2 : ByteArray) (hrd : rd_T59 l (i : Int) = ⟨false, f1, f2⟩) (hf : f2.size ≤ 100000) (A : List Int) (hA : A.length ≤ 100000000000) (R : ByteArray) (h : Ev (fun k => sluicegateref37_Key.l0 k l (strOfNums (A ++ 2 :: (escI f2 ++ [0, 1]))) ((i + 1 : Nat) : Int)) R) :
    ∀ (e j : Nat), f2.size - j = e → j ≤ f2.size → Ev (fun k => sluicegateref37_Key.l1 k l (strOfNums (A ++ 2 :: intsU (escU (f2.data.toList.take j)))) (i : Int) (j : Int)) R := by
  have hd := data_length f2
  have hE : ∀ j, (intsU (escU (f2.data.toList.take j))).length ≤ 200000 := by
    intro j
    have h1 := escU_length (f2.data.toList.take j)
    rw [List.length_take] at h1
    have h2 : (intsU (escU (f2.data.toList.take j))).length = (escU (f2.data.toList.take j)).length := List.length_map _
    omega
  have q0 : (0 : Int) ≤ (i : Int) := Int.natCast_nonneg _
  have q1 : (i : Int) < (l.length : Int) := fact_lt hi
  intro e
  induction e with
  | zero =>
    intro j he hj
    have hEj := hE j
    have q2 : ¬ ((j : Int) < (f2.size : Int)) := by omega
    have htk : f2.data.toList.take j = f2.data.toList := List.take_of_length_le (by omega)
    rw [htk] at hEj ⊢
    have hsz : (strOfNums (A ++ 2 :: intsU (escU f2.data.toList))).size + 2 ≤ 9223372036854775807 := by
      rw [strOfNums_size, List.length_append, List.length_cons]
      omega
    refine Ev.step (f := fun k => sluicegateref37_Key.l0 k l (strOfNums (A ++ 2 :: intsU (escU f2.data.toList)) ++ (⟨#[0, 1]⟩ : ByteArray)) (wrap64 ((i : Int) + 1))) (fun k => by
      simp only [sluicegateref37_Key.l1, hrd]; rw [if_pos q0, if_pos q1, if_neg q2, if_pos hsz]) ?_
    rw [w64n hi (by omega), show (⟨#[0, 1]⟩ : ByteArray) = strOfNums [0, 1] from str_is [0, 1], ← str_append, List.append_assoc]
    exact h
  | succ e ihe =>
    intro j he hj
    have hj2 : j < f2.data.toList.length := by omega
    have hj3 : j < f2.size := by omega
    have ihe1 := ihe (j + 1) (by omega) (by omega)
    rw [List.take_succ_eq_append_getElem hj2, escU_app, intsU_app] at ihe1
    have hEj := hE j
    generalize intsU (escU (f2.data.toList.take j)) = E at ihe1 hEj ⊢
    refine Ev.step (key_round0 l i f1 f2 hi hrd j hj3 hf hj2 A E (by omega)) ?_
    generalize f2.data.toList[j] = c at ihe1 ⊢
    by_cases hc0 : c = 0
    · subst hc0
      rw [show escU [(0 : UInt8)] = [0, 255] from rfl, show (A ++ 2 :: (E ++ intsU [0, 255])) = ((A ++ 2 :: E) ++ intsU [0]) ++ [255] from by simp [intsU]] at ihe1
      simp only [if_true]
      exact ihe1
    · simp only [if_neg hc0]
      rw [show escU [c] = [c] from by simp [escU, hc0], show (A ++ 2 :: (E ++ intsU [c])) = (A ++ 2 :: E) ++ intsU [c] from by simp] at ihe1
      exact ihe1
theorem key_round1 (l : List S59) (i : Nat) (f1 : Int) (f2 : ByteArray) (hi : i < l.length) (hrd : rd_T59 l (i : Int) = ⟨true, f1, f2⟩) (hl : l.length ≤ 100000) (A : List Int) (hA : A.length ≤ 100000000000) (k : Nat) :
    sluicegateref37_Key.l0 (k + 1) l (strOfNums A) (i : Int) = (sluicegateref02_Bytes.f k 8 f1).bind fun t => (if A.length + 1 + t.length ≤ 9223372036854775807 then (sluicegateref37_Key.l0 k l (strOfNums (A ++ (1 :: t))) ((i + 1 : Nat) : Int)) else (none)) := by
  have q0 : (0 : Int) ≤ (i : Int) := Int.natCast_nonneg _
  have q1 : (i : Int) < (l.length : Int) := fact_lt hi
  have z1 : (strOfNums A).size + 1 ≤ 9223372036854775807 := by rw [strOfNums_size]; omega
  have hw := w64n hi (by omega)
  simp only [sluicegateref37_Key.l0, hrd, hw]
  rw [if_pos q1, if_pos q0, if_pos True.intro, if_pos z1]
  congr 1
  funext t
  rw [str1 1, ← str_append, ← str_append, strOfNums_size, strOfNums_size, List.length_append, List.append_assoc]
  rfl
theorem key_round2 (l : List S59) (i : Nat) (f1 : Int) (f2 : ByteArray) (hi : i < l.length) (hrd : rd_T59 l (i : Int) = ⟨false, f1, f2⟩) (A : List Int) (hA : A.length ≤ 100000000000) (k : Nat) :
    sluicegateref37_Key.l0 (k + 1) l (strOfNums A) (i : Int) = sluicegateref37_Key.l1 k l (strOfNums (A ++ [2])) (i : Int) 0 := by
  have q0 : (0 : Int) ≤ (i : Int) := Int.natCast_nonneg _
  have q1 : (i : Int) < (l.length : Int) := fact_lt hi
  have z1 : (strOfNums A).size + 1 ≤ 9223372036854775807 := by rw [strOfNums_size]; omega
  simp only [sluicegateref37_Key.l0, hrd]
  rw [if_pos q1, if_pos q0, if_neg (by simp), if_pos z1, str1 2, ← str_append]
  rfl
theorem key_ev (l : List S59) (hl : l.length ≤ 100000) (ho : ∀ p ∈ l, OkP (to45 p)) : Ev (fun k => sluicegateref37_Key.f k l) (strOfNums (enc (l.map to45))) := by
  have hT : ∀ i, (enc ((l.take i).map to45)).length ≤ 100000000000 := by
    intro i
    have h1 := enc_length (l := (l.take i).map to45) (fun p hp => by
      obtain ⟨q, hq, rfl⟩ := List.mem_map.1 hp
      exact ho q (List.mem_of_mem_take hq))
    rw [List.length_map, List.length_take] at h1
    omega
  have main : ∀ (d i : Nat), l.length - i = d → i ≤ l.length → Ev (fun k => sluicegateref37_Key.l0 k l (strOfNums (enc ((l.take i).map to45))) (i : Int)) (strOfNums (enc (l.map to45))) := by
    intro d
    induction d with
    | zero =>
      intro i hd hi
      refine Ev.step (f := fun k => some (strOfNums (enc ((l.take i).map to45)))) (fun k => by simp only [sluicegateref37_Key.l0]; rw [if_neg (by omega)]) ?_
      rw [List.take_of_length_le (by omega)]
      exact Ev.now _
    | succ d ih =>
      intro i hd hi
      have hi2 : i < l.length := by omega
      have ih1 := ih (i + 1) (by omega) (by omega)
      rw [List.take_succ_eq_append_getElem hi2, List.map_append, enc_app, show enc ([l[i]].map to45) = encP (to45 l[i]) from enc_one _] at ih1
      have hoi := ho _ (List.getElem_mem hi2)
      have hrd := rd59 hi2
      have hTi := hT i
      generalize enc ((l.take i).map to45) = A at ih1 hTi ⊢
      obtain ⟨p, hp⟩ : ∃ p, l[i] = p := ⟨_, rfl⟩
      rw [hp] at ih1 hoi hrd
      clear hT ih hp
      obtain ⟨f0, f1, f2⟩ := p
      cases f0
      · refine Ev.step (key_round2 l i f1 f2 hi2 hrd A hTi) ?_
        exact key_text l hl i hi2 f1 f2 hrd hoi.2.2 A hTi _ ih1 f2.size 0 rfl (Nat.zero_le _)
      · refine Ev.step (key_round1 l i f1 f2 hi2 hrd hl A hTi) ?_
        refine Ev.bind (bytes8_ev ⟨hoi.1, hoi.2.1, by show (0 : Nat) ≤ 100000; omega⟩) ?_
        have z : A.length + 1 + (be 8 f1).length ≤ 9223372036854775807 := by rw [be_length]; omega
        simp only [if_pos z]
        exact ih1
  exact main _ 0 rfl (by omega)
theorem ba_beq (x y : ByteArray) : (x.toList == y.toList) = true ↔ x = y := by
  rw [beq_iff_eq]
  refine ⟨fun h => ?_, fun h => by rw [h]⟩
  rw [Lib.toList_data, Lib.toList_data] at h
  apply ByteArray.ext
  exact Array.toList_inj.1 h
theorem s59_ne (p q : S59) : (!(p.f0 == q.f0) || (!(p.f1 == q.f1) || (!(p.f2.toList == q.f2.toList)))) = true ↔ p ≠ q := by
  obtain ⟨a, b, c⟩ := p
  obtain ⟨x, y, z⟩ := q
  rw [Bool.or_eq_true, Bool.or_eq_true, Bool.not_eq_true', Bool.not_eq_true', Bool.not_eq_true']
  have h := ba_beq c z
  constructor
  · rintro h1 h2
    injection h2 with h3 h4 h5
    subst h3 h4 h5
    simp only [beq_self_eq_true, Bool.true_eq_false, or_self] at h1
  · intro h1
    by_cases e1 : a = x
    · by_cases e2 : b = y
      · refine Or.inr (Or.inr ?_)
        cases h3 : (c.toList == z.toList) with
        | false => rfl
        | true => exact absurd (by rw [e1, e2, h.1 h3]) h1
      · exact Or.inr (Or.inl (by simpa using e2))
    · exact Or.inl (by simpa using e1)
theorem s45_ne (p q : S45) : (!(p.f0 == q.f0) || (!(p.f1 == q.f1) || (!(p.f2.toList == q.f2.toList)))) = true ↔ p ≠ q := by
  refine Iff.trans (s59_ne (to59 p) (to59 q)) ?_
  exact not_congr ⟨fun h => congrArg to45 h, fun h => congrArg to59 h⟩
theorem same_ev (l m : List S59) (hl : l.length ≤ 100000) : ∃ b, Ev (fun k => sluicegateref37_Same.f k l m) b ∧ (b = true ↔ l = m) := by
  by_cases hlen : l.length = m.length
  · have main : ∀ (d i : Nat), l.length - i = d → i ≤ l.length → ∃ b, Ev (fun k => sluicegateref37_Same.l0 k l m (i : Int)) b ∧ (b = true ↔ l.drop i = m.drop i) := by
      intro d
      induction d with
      | zero =>
        intro i hd hi
        refine ⟨true, Ev.step (f := fun k => some true) (fun k => by simp only [sluicegateref37_Same.l0]; rw [if_neg (by omega)]) (Ev.now _), ?_⟩
        rw [List.drop_eq_nil_of_le (by omega), List.drop_eq_nil_of_le (by omega)]
        simp
      | succ d ih =>
        intro i hd hi
        have hi2 : i < l.length := by omega
        have hi3 : i < m.length := by omega
        obtain ⟨b, h1, h2⟩ := ih (i + 1) (by omega) (by omega)
        rw [List.drop_eq_getElem_cons hi2, List.drop_eq_getElem_cons hi3]
        have q0 : (0 : Int) ≤ (i : Int) := Int.natCast_nonneg _
        have hr : ∀ k, sluicegateref37_Same.l0 (k + 1) l m (i : Int) = if (!(l[i].f0 == m[i].f0) || (!(l[i].f1 == m[i].f1) || (!(l[i].f2.toList == m[i].f2.toList)))) = true then some false else sluicegateref37_Same.l0 k l m ((i + 1 : Nat) : Int) := by
          intro k
          simp only [sluicegateref37_Same.l0]
          rw [if_pos (fact_lt hi2), if_pos q0, if_pos (fact_lt hi3), rd59 hi2, rd59 hi3, w64n hi2 (by omega)]
        by_cases hc : (!(l[i].f0 == m[i].f0) || (!(l[i].f1 == m[i].f1) || (!(l[i].f2.toList == m[i].f2.toList)))) = true
        · refine ⟨false, Ev.step hr ?_, ?_⟩
          · simp only [if_pos hc]
            exact Ev.now _
          · refine ⟨fun h => (by cases h), fun h => ?_⟩
            injection h with h _
            exact absurd h ((s59_ne _ _).1 hc)
        · refine ⟨b, Ev.step hr ?_, ?_⟩
          · simp only [if_neg hc]
            exact h1
          · have he : l[i] = m[i] := Classical.not_not.1 (fun h => hc ((s59_ne _ _).2 h))
            rw [h2, he]
            exact ⟨fun h => by rw [h], fun h => by injection h⟩
    obtain ⟨b, h1, h2⟩ := main _ 0 rfl (by omega)
    rw [List.drop_zero, List.drop_zero] at h2
    refine ⟨b, Ev.congr (fun k => ?_) h1, h2⟩
    unfold sluicegateref37_Same.f
    rw [if_pos (by omega)]
    rfl
  · refine ⟨false, Ev.congr (f := fun k => some false) (fun k => ?_) (Ev.now _), fun h => (by cases h), fun h => absurd (congrArg List.length h) hlen⟩
    unfold sluicegateref37_Same.f
    rw [if_neg (by omega)]
theorem tsame_ev (l m : List S45) (hl : l.length ≤ 100000) : ∃ b, Ev (fun k => tuple_Same.f k l m) b ∧ (b = true ↔ l = m) := by
  have key : ∃ b, Ev (fun k => tuple_Part_31.f k l m) b ∧ (b = true ↔ l = m) := by
    by_cases hlen : l.length = m.length
    · have main : ∀ (d i : Nat), l.length - i = d → i ≤ l.length → ∃ b, Ev (fun k => tuple_Part_31.l0 k l m (l.length : Int) (i : Int)) b ∧ (b = true ↔ l.drop i = m.drop i) := by
        intro d
        induction d with
        | zero =>
          intro i hd hi
          refine ⟨true, Ev.step (f := fun k => some true) (fun k => by simp only [tuple_Part_31.l0]; rw [if_neg (by omega)]) (Ev.now _), ?_⟩
          rw [List.drop_eq_nil_of_le (by omega), List.drop_eq_nil_of_le (by omega)]
          simp
        | succ d ih =>
          intro i hd hi
          have hi2 : i < l.length := by omega
          have hi3 : i < m.length := by omega
          obtain ⟨b, h1, h2⟩ := ih (i + 1) (by omega) (by omega)
          rw [List.drop_eq_getElem_cons hi2, List.drop_eq_getElem_cons hi3]
          have q0 : (0 : Int) ≤ (i : Int) := Int.natCast_nonneg _
          have hr : ∀ k, tuple_Part_31.l0 (k + 1) l m (l.length : Int) (i : Int) = if (!(l[i].f0 == m[i].f0) || (!(l[i].f1 == m[i].f1) || (!(l[i].f2.toList == m[i].f2.toList)))) = true then some false else tuple_Part_31.l0 k l m (l.length : Int) ((i + 1 : Nat) : Int) := by
            intro k
            simp only [tuple_Part_31.l0]
            rw [if_pos (fact_lt hi2), if_pos q0, if_pos (fact_lt hi2), if_pos (fact_lt hi3), rd45 hi2, rd45 hi3, w64n hi2 (by omega)]
          by_cases hc : (!(l[i].f0 == m[i].f0) || (!(l[i].f1 == m[i].f1) || (!(l[i].f2.toList == m[i].f2.toList)))) = true
          · refine ⟨false, Ev.step hr ?_, ?_⟩
            · simp only [if_pos hc]
              exact Ev.now _
            · refine ⟨fun h => (by cases h), fun h => ?_⟩
              injection h with h _
              exact absurd h ((s45_ne _ _).1 hc)
          · refine ⟨b, Ev.step hr ?_, ?_⟩
            · simp only [if_neg hc]
              exact h1
            · have he : l[i] = m[i] := Classical.not_not.1 (fun h => hc ((s45_ne _ _).2 h))
              rw [h2, he]
              exact ⟨fun h => by rw [h], fun h => by injection h⟩
      obtain ⟨b, h1, h2⟩ := main _ 0 rfl (by omega)
      rw [List.drop_zero, List.drop_zero] at h2
      refine ⟨b, Ev.congr (fun k => ?_) h1, h2⟩
      unfold tuple_Part_31.f
      rw [if_pos (by omega)]
      rfl
    · refine ⟨false, Ev.congr (f := fun k => some false) (fun k => ?_) (Ev.now _), fun h => (by cases h), fun h => absurd (congrArg List.length h) hlen⟩
      unfold tuple_Part_31.f
      rw [if_neg (by omega)]
  obtain ⟨b, h1, h2⟩ := key
  exact ⟨b, Ev.bind h1 (Ev.now _), h2⟩
/-- A tuple that is not too much. -/
def Small (l : List S45) : Prop := l.length ≤ 30 ∧ ∀ p ∈ l, p.f2.size ≤ 300
theorem great_ev (l : List S45) (hl : l.length ≤ 4398046511104) : ∃ b, Ev (fun k => sluicegatelaw37_great.f k l) b ∧ (b = false → Small l) := by
  have main : ∀ (d i : Nat), 50 - i = d → i ≤ 50 → (∀ j (hj : j < i) (h : j < l.length), (l[j]).f2.size ≤ 300) → i ≤ l.length → ∃ b, Ev (fun k => sluicegatelaw37_great.l0 k l (i : Int)) b ∧ (b = false → Small l) := by
    intro d
    induction d with
    | zero =>
      intro i hd hi hj hil
      have hgo : Ev (fun k => sluicegatelaw37_great.l0 k l (i : Int)) (decide ((l.length : Int) > 30)) := by
        refine Ev.step (f := fun k => sluicegatelaw37_great.j1 k l (i : Int) false) (fun k => ?_) (Ev.step (f := fun k => some (decide ((l.length : Int) > 30))) (fun k => by simp [sluicegatelaw37_great.j1]) (Ev.now _))
        simp only [sluicegatelaw37_great.l0]
        rw [decide_eq_false (by omega)]
        split <;> rfl
      refine ⟨_, hgo, fun h => ?_⟩
      have := of_decide_eq_false h
      exact ⟨by omega, fun p hp => by
        obtain ⟨j, hjl, rfl⟩ := List.getElem_of_mem hp
        exact hj j (by omega) hjl⟩
    | succ d ih =>
      intro i hd hi hj hil
      by_cases hi2 : i < l.length
      · have q0 : (0 : Int) ≤ (i : Int) := Int.natCast_nonneg _
        have hr : ∀ k, sluicegatelaw37_great.l0 (k + 1) l (i : Int) = sluicegatelaw37_great.j1 k l (i : Int) true := by
          intro k
          simp only [sluicegatelaw37_great.l0]
          rw [if_pos (fact_lt hi2), decide_eq_true (by omega)]
        have hr2 : ∀ k, sluicegatelaw37_great.j1 (k + 1) l (i : Int) true = if ((l[i]).f2.size : Int) > 300 then some true else sluicegatelaw37_great.l0 k l ((i + 1 : Nat) : Int) := by
          intro k
          simp only [sluicegatelaw37_great.j1]
          rw [if_pos trivial, if_pos q0, if_pos (fact_lt hi2), rd45 hi2, w64n hi2 (by omega)]
        by_cases hc : ((l[i]).f2.size : Int) > 300
        · refine ⟨true, Ev.step hr (Ev.step hr2 ?_), fun h => by cases h⟩
          simp only [if_pos hc]
          exact Ev.now _
        · obtain ⟨b, h1, h2⟩ := ih (i + 1) (by omega) (by omega) (fun j hj2 h => by
            rcases Nat.lt_or_ge j i with h3 | h3
            · exact hj j h3 h
            · obtain rfl : j = i := by omega
              omega) (by omega)
          refine ⟨b, Ev.step hr (Ev.step hr2 ?_), h2⟩
          simp only [if_neg hc]
          exact h1
      · have hgo : Ev (fun k => sluicegatelaw37_great.l0 k l (i : Int)) (decide ((l.length : Int) > 30)) := by
          refine Ev.step (f := fun k => sluicegatelaw37_great.j1 k l (i : Int) false) (fun k => ?_) (Ev.step (f := fun k => some (decide ((l.length : Int) > 30))) (fun k => by simp [sluicegatelaw37_great.j1]) (Ev.now _))
          simp only [sluicegatelaw37_great.l0]
          rw [if_neg (by omega)]
        refine ⟨_, hgo, fun h => ?_⟩
        have := of_decide_eq_false h
        exact ⟨by omega, fun p hp => by
          obtain ⟨j, hjl, rfl⟩ := List.getElem_of_mem hp
          exact hj j (by omega) hjl⟩
  exact main 50 0 rfl (by omega) (fun j hj => absurd hj (Nat.not_lt_zero _)) (Nat.zero_le _)
end Go.Proofs.YtdekhhimjnockaaDoor.Tu
