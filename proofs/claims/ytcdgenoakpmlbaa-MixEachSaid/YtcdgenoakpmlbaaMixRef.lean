/- What the document's functions come to: comparing, Right, right, Cut, Put, Same. -/
import Derived.Test.YtcdgenoakpmlbaaMixTell
import Derived.Test.YtcdgenoakpmlbaaQ1
namespace Go.Proofs.Ytcdgenoakpmlbaa.Mix
open Go.RowKit Go.Proofs.YtcdgenoakpmlbaaW.PrintWords Go.Proofs.YtcdgenoakpmlbaaW.PrintLast Go.Proofs.YtcdgenoakpmlbaaW.PrintMore
open Go.Proofs.Ytcdgenoakpmlbaa Go.Proofs.Ytcdgenoakpmlbaa.Vals Go.Proofs.Ytcdgenoakpmlbaa.Q
set_option linter.unusedVariables false
set_option linter.unusedSimpArgs false

theorem w64n {i n : Nat} (h : i < n) (hn : n ≤ 140737488355328) : wrap64 ((i : Int) + 1) = ((i + 1 : Nat) : Int) := by
  unfold wrap64
  omega
theorem bt_is {s : ByteArray} {i : Nat} (h : i < s.size) (h2 : i < s.data.toList.length) : bt s (i : Int) = ((s.data.toList[i]'h2).toNat : Int) := by
  unfold bt
  rw [Int.toNat_natCast, dif_pos h]
  rfl
theorem cmp_ev0 (a b : ByteArray) (ha : a.size ≤ 140737488355328) : ∀ (d i : Nat), i ≤ a.size → i ≤ b.size → a.size - i = d → Ev (fun k => sluicegateref01_Compare.l0 k a b (i : Int)) (Lib.compareBytes (a.data.toList.drop i) (b.data.toList.drop i)) := by
  intro d
  induction d with
  | zero =>
    intro i h1 h2 hd
    have e1 : ¬ ((i : Int) < (a.size : Int)) := by omega
    refine Ev.step (f := fun k => sluicegateref01_Compare.j1 k a b (i : Int) false) (fun k => by simp only [sluicegateref01_Compare.l0]; rw [if_neg e1]) ?_
    refine Ev.step (f := fun k => some (if (a.size : Int) < (b.size : Int) then -1 else 0)) (fun k => by
      simp only [sluicegateref01_Compare.j1, Bool.false_eq_true, if_false]
      by_cases hb : (a.size : Int) < (b.size : Int)
      · rw [if_pos hb, if_pos hb]
      · rw [if_neg hb, if_neg hb, if_neg (by omega)]) ?_
    have hda : a.data.toList.drop i = [] := List.drop_eq_nil_of_le (by rw [data_length]; omega)
    rw [hda]
    by_cases hb : (a.size : Int) < (b.size : Int)
    · rw [if_pos hb]
      have hlt : i < b.data.toList.length := by rw [data_length]; omega
      rw [List.drop_eq_getElem_cons hlt]
      exact Ev.now _
    · rw [if_neg hb]
      have hdb : b.data.toList.drop i = [] := List.drop_eq_nil_of_le (by rw [data_length]; omega)
      rw [hdb]
      exact Ev.now _
  | succ d ih =>
    intro i h1 h2 hd
    have e1 : (i : Int) < (a.size : Int) := by omega
    have hla : i < a.data.toList.length := by rw [data_length]; omega
    by_cases hb : i < b.size
    · have e2 : (i : Int) < (b.size : Int) := by omega
      have hlb : i < b.data.toList.length := by rw [data_length]; omega
      have ih1 := ih (i + 1) (by omega) (by omega) (by omega)
      rw [List.drop_eq_getElem_cons hla, List.drop_eq_getElem_cons hlb]
      refine Ev.step (f := fun k => sluicegateref01_Compare.j1 k a b (i : Int) true) (fun k => by simp only [sluicegateref01_Compare.l0]; rw [if_pos e1, decide_eq_true e2]) ?_
      refine Ev.step (f := fun k => if (bt a i) < (bt b i) then (some (-1)) else (if (bt a i) > (bt b i) then (some 1) else (sluicegateref01_Compare.l0 k a b (wrap64 ((i : Int) + 1))))) (fun k => by
        simp only [sluicegateref01_Compare.j1, if_true]; rw [if_pos (by omega), if_pos e1, if_pos e2]) ?_
      rw [bt_is (by omega) hla, bt_is hb hlb, w64n (n := a.size) (by omega) ha]
      generalize a.data.toList[i] = x
      generalize b.data.toList[i] = y
      simp only [Lib.compareBytes]
      by_cases hxy : x < y
      · have g1 : (x.toNat : Int) < (y.toNat : Int) := by have := UInt8.lt_iff_toNat_lt.1 hxy; omega
        rw [if_pos hxy]
        simp only [if_pos g1]
        exact Ev.now _
      · have g1 : ¬ (x.toNat : Int) < (y.toNat : Int) := fun h => hxy (UInt8.lt_iff_toNat_lt.2 (by omega))
        rw [if_neg hxy]
        simp only [if_neg g1]
        by_cases hyx : y < x
        · have g2 : (x.toNat : Int) > (y.toNat : Int) := by have := UInt8.lt_iff_toNat_lt.1 hyx; omega
          rw [if_pos hyx]
          simp only [if_pos g2]
          exact Ev.now _
        · have g2 : ¬ (x.toNat : Int) > (y.toNat : Int) := fun h => hyx (UInt8.lt_iff_toNat_lt.2 (by omega))
          rw [if_neg hyx]
          simp only [if_neg g2]
          exact ih1
    · have e2 : ¬ ((i : Int) < (b.size : Int)) := by omega
      refine Ev.step (f := fun k => sluicegateref01_Compare.j1 k a b (i : Int) false) (fun k => by simp only [sluicegateref01_Compare.l0]; rw [if_pos e1, decide_eq_false e2]) ?_
      refine Ev.step (f := fun k => some 1) (fun k => by
        simp only [sluicegateref01_Compare.j1, Bool.false_eq_true, if_false]
        rw [if_neg (by omega), if_pos (by omega)]) ?_
      have hdb : b.data.toList.drop i = [] := List.drop_eq_nil_of_le (by rw [data_length]; omega)
      rw [hdb, List.drop_eq_getElem_cons hla]
      exact Ev.now _
theorem cmp_ev (a b : ByteArray) (ha : a.size ≤ 140737488355328) : Ev (fun k => sluicegateref01_Compare.f k a b) (cmp a b) :=
  cmp_ev0 a b ha a.size 0 (by omega) (by omega) (by omega)
/-- Pairs whose keys are no longer than a string may be. -/
def Few (l : List S32) : Prop := l.length ≤ 140737488355328 ∧ ∀ p ∈ l, p.f0.size ≤ 140737488355328
theorem rd_is {l : List S32} {i : Nat} (h : i < l.length) : rd_T32 l (i : Int) = l[i] := by
  unfold rd_T32
  rw [Int.toNat_natCast, List.getD_eq_getElem?_getD, List.getElem?_eq_getElem h]
  rfl
/-- The keys rise, from place i on. -/
def riseB : List S32 → Bool
  | [] => true
  | [_] => true
  | p :: q :: r => if cmp p.f0 q.f0 ≥ 0 then false else riseB (q :: r)
theorem right_ev0 (l : List S32) (hl : Few l) : ∀ (d i : Nat), l.length - i = d → 0 < i → i ≤ l.length → Ev (fun k => sluicegateref11_Right.l0 k l (i : Int)) (riseB (l.drop (i - 1))) := by
  intro d
  induction d with
  | zero =>
    intro i hd h0 hi
    refine Ev.step (f := fun k => some true) (fun k => by simp only [sluicegateref11_Right.l0]; rw [if_neg (by omega)]) ?_
    rw [List.drop_eq_getElem_cons (by omega), List.drop_eq_nil_of_le (by omega)]
    exact Ev.now _
  | succ d ih =>
    intro i hd h0 hi
    have hi2 : i < l.length := by omega
    have ih1 := ih (i + 1) (by omega) (by omega) (by omega)
    have hw : wrap64 ((i : Int) - 1) = ((i - 1 : Nat) : Int) := by have := hl.1; unfold wrap64; omega
    refine Ev.step (f := fun k => (sluicegateref01_Compare.f k ((rd_T32 l ((i - 1 : Nat) : Int)).f0) ((rd_T32 l (i : Int)).f0)).bind fun t103 => (if t103 ≥ 0 then (some false) else (sluicegateref11_Right.l0 k l (wrap64 ((i : Int) + 1))))) (fun k => by
      simp only [sluicegateref11_Right.l0]; rw [if_pos (by omega), hw, if_pos (by omega), if_pos (by omega), if_pos (by omega)]) ?_
    rw [rd_is (by omega), rd_is hi2, w64n (n := l.length) hi2 hl.1]
    rw [List.drop_eq_getElem_cons (show i - 1 < l.length by omega), show i - 1 + 1 = i by omega, List.drop_eq_getElem_cons hi2]
    rw [show i + 1 - 1 = i by omega, List.drop_eq_getElem_cons hi2] at ih1
    refine Ev.bind (cmp_ev _ _ (hl.2 _ (List.getElem_mem _))) ?_
    simp only [riseB]
    by_cases hc : cmp (l[i - 1]).f0 (l[i]).f0 ≥ 0
    · simp only [if_pos hc]
      exact Ev.now _
    · simp only [if_neg hc]
      exact ih1
theorem right_ev (l : List S32) (hl : Few l) : Ev (fun k => sluicegateref11_Right.f k l) (riseB l) := by
  cases h : l with
  | nil => exact Ev.step (f := fun k => some true) (fun k => rfl) (Ev.now _)
  | cons p r =>
    rw [← h]
    have h1 : 0 < l.length := by rw [h]; simp
    exact right_ev0 l hl _ 1 rfl (by omega) h1
theorem rise_sorted : ∀ l : List S32, riseB l = true ↔ Sorted l
  | [] => by simp [riseB, Sorted]
  | [p] => by simp [riseB, Sorted]
  | p :: q :: r => by
    have ih := rise_sorted (q :: r)
    unfold Sorted at ih ⊢
    rw [List.pairwise_cons, ← ih]
    simp only [riseB]
    by_cases hc : cmp p.f0 q.f0 ≥ 0
    · rw [if_pos hc]
      constructor
      · intro h; cases h
      · intro h
        have := h.1 q List.mem_cons_self
        omega
    · rw [if_neg hc]
      constructor
      · intro h
        refine ⟨fun x hx => ?_, h⟩
        rcases List.mem_cons.1 hx with rfl | hx
        · omega
        · exact cmp_trans (by omega) ((List.pairwise_cons.1 (ih.1 h)).1 x hx)
      · exact fun h => h.2
theorem same_ev (l : List S32) (hl : l.length ≤ 140737488355328) : Ev (fun k => sluicegateref11_Same.f k l l) true := by
  have main : ∀ (d i : Nat), l.length - i = d → i ≤ l.length → Ev (fun k => sluicegateref11_Same.l0 k l l (i : Int)) true := by
    intro d
    induction d with
    | zero =>
      intro i hd hi
      exact Ev.step (f := fun k => some true) (fun k => by simp only [sluicegateref11_Same.l0]; rw [if_neg (by omega)]) (Ev.now _)
    | succ d ih =>
      intro i hd hi
      have hi2 : i < l.length := by omega
      refine Ev.step (f := fun k => sluicegateref11_Same.l0 k l l (wrap64 ((i : Int) + 1))) (fun k => by
        simp only [sluicegateref11_Same.l0]; rw [if_pos (by omega), if_pos (by omega), if_pos (by omega)]; simp) ?_
      rw [w64n hi2 hl]
      exact ih (i + 1) (by omega) (by omega)
  refine Ev.congr (f := fun k => sluicegateref11_Same.l0 k l l ((0 : Nat) : Int)) (fun k => ?_) (main _ 0 rfl (by omega))
  unfold sluicegateref11_Same.f
  rw [if_pos rfl]
  rfl
/-- Rows as they should be. -/
def RowsOk (rows : List (List S32)) : Prop := rows.length ≤ 21 ∧ (∀ l ∈ rows, l.length ≤ 100 ∧ Sorted l) ∧ (rows.map List.length).sum ≤ 200
theorem rdL_is {rows : List (List S32)} {i : Nat} (h : i < rows.length) : rd_L2 rows (i : Int) = rows[i] := by
  unfold rd_L2
  rw [Int.toNat_natCast, List.getD_eq_getElem?_getD, List.getElem?_eq_getElem h]
  rfl
def FewR (rows : List (List S32)) : Prop := rows.length ≤ 140737488355328 ∧ ∀ l ∈ rows, Few l
def RestOk (rows : List (List S32)) (i s : Nat) : Prop := (∀ j (h : j < rows.length), i ≤ j → j ≤ 20 ∧ (rows[j]).length ≤ 100 ∧ Sorted rows[j]) ∧ s + ((rows.drop i).map List.length).sum ≤ 200
theorem right24_in (rows : List (List S32)) (hr : FewR rows) (i s : Nat) (hi : i < rows.length) (hl : (rows[i]).length ≤ 100) (Q : Prop) (hn : ∃ b, Ev (fun k => sluicegatelaw24_right.l0 k rows (s : Int) ((i + 1 : Nat) : Int)) b ∧ (b = true → Q)) :
    ∀ (d x : Nat), (rows[i]).length - x = d → x ≤ (rows[i]).length → ∃ b, Ev (fun k => sluicegatelaw24_right.l1 k rows (s : Int) (i : Int) (x : Int)) b ∧ (b = true → Q) := by
  intro d
  induction d with
  | zero =>
    intro x hd hx
    obtain ⟨b, h1, h2⟩ := hn
    refine ⟨b, Ev.step (f := fun k => sluicegatelaw24_right.l0 k rows (s : Int) (wrap64 ((i : Int) + 1))) (fun k => by
      simp only [sluicegatelaw24_right.l1]; rw [if_pos (by omega), if_pos (by omega), rdL_is hi, if_neg (by omega)]) ?_, h2⟩
    rw [w64n hi hr.1]
    exact h1
  | succ d ih =>
    intro x hd hx
    have hx2 : x < (rows[i]).length := by omega
    obtain ⟨b, h1, h2⟩ := ih (x + 1) (by omega) (by omega)
    have hstep : ∀ k, sluicegatelaw24_right.l1 (k + 1) rows (s : Int) (i : Int) (x : Int) = (if (((rows[i])[x].f0).size : Int) > 200 then (some false) else (sluicegatelaw24_right.l1 k rows s i (wrap64 ((x : Int) + 1)))) := fun k => by
      simp only [sluicegatelaw24_right.l1]
      rw [if_pos (by omega), if_pos (by omega), rdL_is hi, if_pos (by omega), if_pos (by omega), rd_is hx2]
    by_cases hc : (((rows[i])[x].f0).size : Int) > 200
    · exact ⟨false, Ev.step (f := fun k => some false) (fun k => by rw [hstep, if_pos hc]) (Ev.now _), fun h => by cases h⟩
    · refine ⟨b, Ev.step (f := fun k => sluicegatelaw24_right.l1 k rows s i (wrap64 ((x : Int) + 1))) (fun k => by rw [hstep, if_neg hc]) ?_, h2⟩
      rw [w64n hx2 (by omega)]
      exact h1
theorem right24_ev0 (rows : List (List S32)) (hr : FewR rows) : ∀ (d i s : Nat), rows.length - i = d → i ≤ rows.length → s ≤ 100 * i → ∃ b, Ev (fun k => sluicegatelaw24_right.l0 k rows (s : Int) (i : Int)) b ∧ (b = true → RestOk rows i s) := by
  intro d
  induction d with
  | zero =>
    intro i s hd hi hs
    refine ⟨_, Ev.step (f := fun k => some (decide ((s : Int) ≤ 200))) (fun k => by simp only [sluicegatelaw24_right.l0]; rw [if_neg (by omega)]) (Ev.now _), fun h => ⟨fun j hj hij => by omega, ?_⟩⟩
    rw [List.drop_eq_nil_of_le (by omega)]
    have := of_decide_eq_true h
    simp
    omega
  | succ d ih =>
    intro i s hd hi hs
    have hi2 : i < rows.length := by omega
    have hno : ∃ b, Ev (fun k => sluicegatelaw24_right.j1 k rows (s : Int) (i : Int) true) b ∧ (b = true → RestOk rows i s) := ⟨false, Ev.step (f := fun k => some false) (fun k => by simp only [sluicegatelaw24_right.j1]; rfl) (Ev.now _), fun h => by cases h⟩
    by_cases h20 : (i : Int) > 20
    · obtain ⟨b, h1, h2⟩ := hno
      exact ⟨b, Ev.step (fun k => by simp only [sluicegatelaw24_right.l0]; rw [if_pos (by omega), if_pos h20]) h1, h2⟩
    · by_cases hl : ((rows[i]).length : Int) > 100
      · obtain ⟨b, h1, h2⟩ := hno
        exact ⟨b, Ev.step (fun k => by simp only [sluicegatelaw24_right.l0]; rw [if_pos (by omega), if_neg h20, if_pos (by omega), rdL_is hi2, if_pos hl]) h1, h2⟩
      · have hfew := hr.2 _ (List.getElem_mem hi2)
        have hev := right_ev _ hfew
        have hstep : ∀ k, sluicegatelaw24_right.l0 (k + 1) rows (s : Int) (i : Int) = (sluicegateref11_Right.f k rows[i]).bind fun t106 => (sluicegatelaw24_right.j1 k rows s i (!t106)) := fun k => by
          simp only [sluicegatelaw24_right.l0]
          rw [if_pos (by omega), if_neg h20, if_pos (by omega), rdL_is hi2, if_neg hl]
        cases hb : riseB rows[i] with
        | false =>
          obtain ⟨b, h1, h2⟩ := hno
          exact ⟨b, Ev.step hstep (Ev.bind (f := fun k t => sluicegatelaw24_right.j1 k rows s i (!t)) hev (by rw [hb]; exact h1)), h2⟩
        | true =>
          obtain ⟨b, h1, h2⟩ := right24_in rows hr i (s + (rows[i]).length) hi2 (by omega) _ (ih (i + 1) (s + (rows[i]).length) (by omega) (by omega) (by omega)) _ 0 rfl (by omega)
          refine ⟨b, Ev.step hstep (Ev.bind (f := fun k t => sluicegatelaw24_right.j1 k rows s i (!t)) hev (by
            rw [hb]
            refine Ev.step (f := fun k => sluicegatelaw24_right.l1 k rows (wrap64 ((s : Int) + ((rows[i]).length : Int))) i 0) (fun k => by
              simp only [sluicegatelaw24_right.j1]; rw [rdL_is hi2, if_pos (show (0 : Int) ≤ (i : Int) by omega), if_pos (show (i : Int) < (rows.length : Int) by omega)]; rfl) ?_
            rw [show wrap64 ((s : Int) + ((rows[i]).length : Int)) = ((s + (rows[i]).length : Nat) : Int) by have := hr.1; unfold wrap64; omega]
            exact h1)), fun hbt => ?_⟩
          obtain ⟨g1, g2⟩ := h2 hbt
          refine ⟨fun j hj hij => ?_, ?_⟩
          · rcases Nat.eq_or_lt_of_le hij with rfl | hlt
            · exact ⟨by omega, by omega, (rise_sorted _).1 hb⟩
            · exact g1 j hj hlt
          · rw [List.drop_eq_getElem_cons hi2, List.map_cons, List.sum_cons]
            omega
theorem right24_ev (rows : List (List S32)) (hr : FewR rows) : ∃ b, Ev (fun k => sluicegatelaw24_right.f k rows) b ∧ (b = true → RowsOk rows) := by
  obtain ⟨b, h1, h2⟩ := right24_ev0 rows hr _ 0 0 rfl (by omega) (by omega)
  refine ⟨b, h1, fun hb => ?_⟩
  obtain ⟨g1, g2⟩ := h2 hb
  refine ⟨?_, fun l hl => ?_, by simpa using g2⟩
  · by_cases h : rows.length ≤ 21
    · exact h
    · have := (g1 21 (by omega) (by omega)).1
      omega
  · obtain ⟨j, hj, rfl⟩ := List.getElem_of_mem hl
    exact ⟨(g1 j hj (by omega)).2.1, (g1 j hj (by omega)).2.2⟩
end Go.Proofs.Ytcdgenoakpmlbaa.Mix
