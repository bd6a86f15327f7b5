/- The document's Merge, and that Each tells the same. -/
import Derived.Test.YtcdgenoakpmlbaaMixPut
namespace Go.Proofs.Ytcdgenoakpmlbaa.Mix
open Go.RowKit Go.Proofs.YtcdgenoakpmlbaaW.PrintWords Go.Proofs.YtcdgenoakpmlbaaW.PrintLast Go.Proofs.YtcdgenoakpmlbaaW.PrintMore
open Go.Proofs.Ytcdgenoakpmlbaa Go.Proofs.Ytcdgenoakpmlbaa.Vals Go.Proofs.Ytcdgenoakpmlbaa.Q
set_option linter.unusedVariables false
set_option linter.unusedSimpArgs false

theorem overB_length : ∀ (row acc : List S32), (overB acc row).length ≤ acc.length + row.length
  | [], acc => Nat.le_refl _
  | a :: r, acc => by
    have h1 := overB_length r (putB acc a.f0 a.f1)
    have h2 := putB_length acc a.f0 a.f1
    rw [show overB acc (a :: r) = overB (putB acc a.f0 a.f1) r from rfl, List.length_cons]
    omega
theorem mergeB_length : ∀ (rows : List (List S32)), (mergeB rows).length ≤ (rows.map List.length).sum
  | [] => Nat.le_refl _
  | row :: rest => by
    have h1 := mergeB_length rest
    have h2 := overB_length row (mergeB rest)
    rw [show mergeB (row :: rest) = overB (mergeB rest) row from rfl, List.map_cons, List.sum_cons]
    omega
theorem overB_few : ∀ (row acc : List S32), Few row → Few acc → acc.length + row.length ≤ 1000000 → Few (overB acc row)
  | [], acc, _, h, _ => h
  | a :: r, acc, hr, h, hl => by
    rw [List.length_cons] at hl
    refine overB_few r (putB acc a.f0 a.f1) ⟨by omega, fun p hp => hr.2 p (List.mem_cons_of_mem _ hp)⟩ (putB_few h (by omega) (hr.2 a List.mem_cons_self)) ?_
    have := putB_length acc a.f0 a.f1
    omega
theorem mergeB_few : ∀ (rows : List (List S32)), (∀ l ∈ rows, Few l) → (rows.map List.length).sum ≤ 1000000 → Few (mergeB rows)
  | [], _, _ => ⟨by simp [mergeB], by simp [mergeB]⟩
  | row :: rest, h, hl => by
    rw [List.map_cons, List.sum_cons] at hl
    have h1 := mergeB_length rest
    exact overB_few row (mergeB rest) (h row List.mem_cons_self) (mergeB_few rest (fun l hl => h l (List.mem_cons_of_mem _ hl)) (by omega)) (by omega)
theorem merge_ev1 (rows : List (List S32)) (hr : FewR rows) (i : Nat) (hi : i < rows.length) (acc : List S32) (hf : Few acc) (hl : acc.length + (rows[i]).length ≤ 1000000) (res : List S32)
    (hn : Ev (fun k => sluicegateref24_Merge.l0 k rows (overB acc rows[i]) ((i : Int) - 1)) res) :
    ∀ (d x : Nat), (rows[i]).length - x = d → x ≤ (rows[i]).length → Ev (fun k => sluicegateref24_Merge.l1 k rows (overB acc ((rows[i]).take x)) (i : Int) (x : Int)) res := by
  intro d
  induction d with
  | zero =>
    intro x hd hx
    refine Ev.step (f := fun k => sluicegateref24_Merge.l0 k rows (overB acc ((rows[i]).take x)) (wrap64 ((i : Int) - 1))) (fun k => by
      simp only [sluicegateref24_Merge.l1]; rw [if_pos (by omega), if_pos (by omega), rdL_is hi, if_neg (by omega)]) ?_
    rw [show wrap64 ((i : Int) - 1) = (i : Int) - 1 by have := hr.1; unfold wrap64; omega, List.take_of_length_le (by omega)]
    exact hn
  | succ d ih =>
    intro x hd hx
    have hx2 : x < (rows[i]).length := by omega
    have ih1 := ih (x + 1) (by omega) (by omega)
    have hfi := hr.2 _ (List.getElem_mem hi)
    have hft : Few ((rows[i]).take x) := ⟨by rw [List.length_take]; omega, fun p hp => hfi.2 p (List.mem_of_mem_take hp)⟩
    have hlt : ((rows[i]).take x).length ≤ (rows[i]).length := by rw [List.length_take]; omega
    have hfa := overB_few ((rows[i]).take x) acc hft hf (by omega)
    have hla := overB_length ((rows[i]).take x) acc
    refine Ev.step (f := fun k => (sluicegateref11_Put.f k (overB acc ((rows[i]).take x)) (rows[i][x]).f0 (rows[i][x]).f1).bind fun t183 => sluicegateref24_Merge.l1 k rows t183 (i : Int) (wrap64 ((x : Int) + 1))) (fun k => by
      simp only [sluicegateref24_Merge.l1]; rw [if_pos (by omega), if_pos (by omega), rdL_is hi, if_pos (by omega), if_pos (by omega), rd_is hx2]) ?_
    refine Ev.bind (f := fun k t183 => sluicegateref24_Merge.l1 k rows t183 (i : Int) (wrap64 ((x : Int) + 1))) (put_ev _ _ _ hfa (by omega)) ?_
    rw [w64n hx2 hfi.1]
    rw [List.take_succ_eq_append_getElem hx2] at ih1
    unfold overB at ih1 ⊢
    rw [List.foldl_append] at ih1
    exact ih1
theorem drop_sum {rows : List (List S32)} {i : Nat} : ((rows.drop i).map List.length).sum ≤ (rows.map List.length).sum := by
  conv => rhs; rw [← List.take_append_drop i rows, List.map_append, List.sum_append]
  omega
theorem merge_ev (rows : List (List S32)) (hr : FewR rows) (hl : (rows.map List.length).sum ≤ 1000000) : Ev (fun k => sluicegateref24_Merge.f k rows) (mergeB rows) := by
  have main : ∀ (i : Nat), i ≤ rows.length → Ev (fun k => sluicegateref24_Merge.l0 k rows (mergeB (rows.drop i)) ((i : Int) - 1)) (mergeB rows) := by
    intro i
    induction i with
    | zero =>
      intro _
      exact Ev.step (f := fun k => some (mergeB rows)) (fun k => by simp only [sluicegateref24_Merge.l0]; rw [if_neg (by omega)]; rfl) (Ev.now _)
    | succ i ih =>
      intro hi
      have hi2 : i < rows.length := by omega
      have ih1 := ih (by omega)
      rw [List.drop_eq_getElem_cons hi2, show mergeB (rows[i] :: rows.drop (i + 1)) = overB (mergeB (rows.drop (i + 1))) rows[i] from rfl] at ih1
      have hs := drop_sum (rows := rows) (i := i)
      rw [List.drop_eq_getElem_cons hi2, List.map_cons, List.sum_cons] at hs
      have hml := mergeB_length (rows.drop (i + 1))
      have h1 := merge_ev1 rows hr i hi2 (mergeB (rows.drop (i + 1))) (mergeB_few _ (fun l hl => hr.2 l (List.mem_of_mem_drop hl)) (by omega)) (by omega) _ ih1 _ 0 rfl (by omega)
      refine Ev.step (f := fun k => sluicegateref24_Merge.l1 k rows (mergeB (rows.drop (i + 1))) (i : Int) 0) (fun k => ?_) h1
      rw [show (((i + 1 : Nat) : Int) - 1) = (i : Int) by omega]
      simp only [sluicegateref24_Merge.l0]
      rw [if_pos (by omega)]
  have h := main rows.length (Nat.le_refl _)
  rw [List.drop_eq_nil_of_le (Nat.le_refl _)] at h
  refine Ev.congr (fun k => ?_) h
  unfold sluicegateref24_Merge.f
  rw [show wrap64 ((rows.length : Int) - 1) = (rows.length : Int) - 1 by have := hr.1; unfold wrap64; omega]
  rfl
/-- What is told of rows. -/
def Told (rows : List (List S32)) (T : List (Int × S32)) : Prop :=
  (T.Pairwise fun a b => cmp a.2.f0 b.2.f0 < 0) ∧ ∀ r p, (r, p) ∈ T ↔ ∃ i, ∃ h : i < rows.length, r = (i : Int) ∧ p ∈ rows[i] ∧ ∀ j (hj : j < i), ∀ p' ∈ rows[j]'(by omega), p'.f0 ≠ p.f0
theorem mem_live : ∀ (i : Nat) (rows : List (List S32)) (r : Int) (l : List S32), (r, l) ∈ live i rows ↔ ∃ j, ∃ h : j < rows.length, r = ((i + j : Nat) : Int) ∧ l = rows[j] ∧ 0 < l.length
  | i, [], r, l => by simp [live]
  | i, a :: rest, r, l => by
    have ih := mem_live (i + 1) rest r l
    have hex : (∃ j, ∃ h : j < (a :: rest).length, r = ((i + j : Nat) : Int) ∧ l = (a :: rest)[j] ∧ 0 < l.length) ↔ (r = (i : Int) ∧ l = a ∧ 0 < l.length) ∨ ∃ j, ∃ h : j < rest.length, r = ((i + 1 + j : Nat) : Int) ∧ l = rest[j] ∧ 0 < l.length := by
      constructor
      · rintro ⟨j, hj, h1, h2, h3⟩
        cases j with
        | zero => exact Or.inl ⟨h1, h2, h3⟩
        | succ j => exact Or.inr ⟨j, by simp at hj; omega, by rw [h1]; omega, h2, h3⟩
      · rintro (⟨h1, h2, h3⟩ | ⟨j, hj, h1, h2, h3⟩)
        · exact ⟨0, by simp, h1, h2, h3⟩
        · exact ⟨j + 1, by simp; omega, by rw [h1]; omega, h2, h3⟩
    rw [hex, ← ih]
    simp only [live]
    split
    · rename_i h0
      constructor
      · exact fun h => Or.inr h
      · rintro (⟨_, rfl, h3⟩ | h)
        · omega
        · exact h
    · rename_i h0
      rw [List.mem_cons]
      constructor
      · rintro (h | h)
        · injection h with h1 h2
          exact Or.inl ⟨h1, h2, by rw [h2]; omega⟩
        · exact Or.inr h
      · rintro (⟨h1, h2, _⟩ | h)
        · exact Or.inl (by rw [h1, h2])
        · exact Or.inr h
theorem live_apart : ∀ (i : Nat) (rows : List (List S32)), ((live i rows).map Prod.fst).Pairwise (· ≠ ·)
  | i, [] => List.Pairwise.nil
  | i, a :: rest => by
    have ih := live_apart (i + 1) rest
    simp only [live]
    split
    · exact ih
    · rw [List.map_cons]
      refine List.pairwise_cons.2 ⟨fun x hx => ?_, ih⟩
      obtain ⟨⟨r, l⟩, h1, rfl⟩ := List.mem_map.1 hx
      obtain ⟨j, _, h2, _⟩ := (mem_live _ _ _ _).1 h1
      simp only at h2 ⊢
      omega
theorem start_told {rows : List (List S32)} {qs : List Qu} (h : Start rows qs) (hs : ∀ l ∈ rows, Sorted l) : Told rows (tell (total qs) qs none) := by
  obtain ⟨hh, ws, hp, hw⟩ := h
  have hmem : ∀ (r : Int) (l : List S32), (∃ q ∈ qs, q.x.row = r ∧ q.l = l) ↔ ∃ j, ∃ h : j < rows.length, r = (j : Int) ∧ l = rows[j] ∧ 0 < l.length := fun r l => by
    have h1 := mem_live 0 rows r l
    simp only [Nat.zero_add] at h1
    rw [← h1, ← hw, List.mem_map]
    constructor
    · rintro ⟨q, hq, e1, e2⟩
      exact ⟨q, hp.mem_iff.1 hq, by rw [e1, e2]⟩
    · rintro ⟨q, hq, e⟩
      injection e with e1 e2
      exact ⟨q, hp.mem_iff.2 hq, e1, e2⟩
  have hg : Good qs none := by
    refine ⟨hh, fun q hq => ?_, ?_, fun k hk => by cases hk⟩
    · obtain ⟨j, hj, _, e, h0⟩ := (hmem q.x.row q.l).1 ⟨q, hq, rfl, rfl⟩
      exact ⟨h0, by rw [e]; exact hs _ (List.getElem_mem hj)⟩
    · refine (hp.pairwise_iff (fun {a b} hab => fun e => hab e.symm)).2 ?_
      have h1 := live_apart 0 rows
      rw [← hw, List.map_map] at h1
      exact List.pairwise_map.1 h1
  obtain ⟨s1, s2⟩ := tell_spec _ qs none hg rfl
  refine ⟨s1, fun r p => ?_⟩
  rw [s2]
  constructor
  · rintro ⟨⟨q, hq, e, hpq⟩, _, hc⟩
    obtain ⟨i, hi, e1, e2, h0⟩ := (hmem q.x.row q.l).1 ⟨q, hq, rfl, rfl⟩
    refine ⟨i, hi, by rw [← e, e1], by rw [← e2]; exact hpq, fun j hj p' hp' ek => ?_⟩
    obtain ⟨q2, hq2, e3, e4⟩ := (hmem (j : Int) (rows[j]'(by omega))).2 ⟨j, by omega, rfl, rfl, List.length_pos_of_mem hp'⟩
    have := hc q2 hq2 ⟨p', by rw [e4]; exact hp', ek⟩
    omega
  · rintro ⟨i, hi, e, hpi, hn⟩
    obtain ⟨q, hq, e1, e2⟩ := (hmem (i : Int) rows[i]).2 ⟨i, hi, rfl, rfl, List.length_pos_of_mem hpi⟩
    refine ⟨⟨q, hq, by rw [e1, e], by rw [e2]; exact hpi⟩, (fun k hk => by cases hk), fun q2 hq2 ⟨p', hp', ek⟩ => ?_⟩
    obtain ⟨j, hj, e3, e4, _⟩ := (hmem q2.x.row q2.l).1 ⟨q2, hq2, rfl, rfl⟩
    by_cases hji : j < i
    · exact absurd ek (hn j hji p' (by rw [← e4]; exact hp'))
    · omega
theorem told_merge {rows : List (List S32)} {T : List (Int × S32)} (h : Told rows T) (hs : ∀ l ∈ rows, Sorted l) : T.map Prod.snd = mergeB rows ∧ Sorted (mergeB rows) := by
  obtain ⟨m1, m2⟩ := mergeB_spec rows hs
  refine ⟨sorted_ext (List.pairwise_map.2 h.1) m1 (fun p => ?_), m1⟩
  rw [m2, List.mem_map]
  constructor
  · rintro ⟨⟨r, p'⟩, hm, rfl⟩
    obtain ⟨i, hi, _, h2⟩ := (h.2 r p').1 hm
    exact ⟨i, hi, h2⟩
  · rintro ⟨i, hi, h2⟩
    exact ⟨((i : Int), p), (h.2 _ _).2 ⟨i, hi, rfl, h2⟩, rfl⟩
theorem cutL_all {go : List (Int × S32) → Bool} (hg : ∀ L, go L = true) : ∀ (T L : List (Int × S32)), cutL go L T = L ++ T
  | [], L => by simp [cutL]
  | x :: r, L => by
    rw [cutL, if_pos (hg _), cutL_all hg r]
    simp
theorem cutL_take {go : List (Int × S32) → Bool} (n : Nat) (hg : ∀ L, L.length ≤ 10000 → go L = decide (L.length ≤ n)) : ∀ (T L : List (Int × S32)), L.length ≤ n → L.length + T.length ≤ 10000 → cutL go L T = L ++ T.take (n + 1 - L.length)
  | [], L, _, _ => by simp [cutL]
  | x :: r, L, h, hl => by
    rw [List.length_cons] at hl
    have h1 : (L ++ [x]).length = L.length + 1 := by simp
    rw [cutL, hg _ (by omega), h1]
    by_cases hc : L.length + 1 ≤ n
    · rw [decide_eq_true hc, if_pos rfl, cutL_take n hg r (L ++ [x]) (by omega) (by omega), h1]
      obtain ⟨m, hm⟩ : ∃ m, n + 1 - L.length = m + 1 := ⟨n - L.length, by omega⟩
      rw [hm, List.take_succ_cons, show n + 1 - (L.length + 1) = m by omega]
      simp
    · rw [decide_eq_false hc]
      have : n + 1 - L.length = 1 := by omega
      rw [this]
      simp
end Go.Proofs.Ytcdgenoakpmlbaa.Mix
