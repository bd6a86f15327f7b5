/- What Each begins with: no program. -/
import Derived.Test.YtcdgenoakpmlbaaMixHeap
import Derived.Lib.Strings
namespace Go.Proofs.Ytcdgenoakpmlbaa.Mix
open Go.RowKit Go.Proofs.YtcdgenoakpmlbaaW.PrintWords Go.Proofs.YtcdgenoakpmlbaaW.PrintLast Go.Proofs.YtcdgenoakpmlbaaW.PrintMore
open Go.Proofs.Ytcdgenoakpmlbaa Go.Proofs.Ytcdgenoakpmlbaa.Vals Go.Proofs.Ytcdgenoakpmlbaa.Q
set_option linter.unusedVariables false
set_option linter.unusedSimpArgs false

theorem next_heap {q : Qu} {t : List Qu} (h : Heap (q :: t)) : Heap (nextL (q :: t)) := by
  show Heap (if _ then _ else _)
  split
  · exact fix_heap h
  · exact (pop_both h).1
theorem next_perm {q : Qu} {t : List Qu} (h : Heap (q :: t)) : (nextL (q :: t)).Perm (if 1 < q.l.length then q.cut :: t else t) := by
  show (if _ then _ else _ : List Qu).Perm _
  split
  · exact fix_perm _
  · exact (pop_both h).2
/-- What each cursor has left. -/
def total (qs : List Qu) : Nat := (qs.map fun q => q.l.length).sum
theorem total_perm {a b : List Qu} (h : a.Perm b) : total a = total b := (h.map _).sum_nat
theorem total_cons (q : Qu) (t : List Qu) : total (q :: t) = q.l.length + total t := by simp [total]
theorem next_total {q : Qu} {t : List Qu} (hh : Heap (q :: t)) (h : 0 < q.l.length) : total (nextL (q :: t)) + 1 = total (q :: t) := by
  rw [total_perm (next_perm hh), total_cons]
  split
  · rw [total_cons]
    have : q.cut.l.length = q.l.length - 1 := List.length_drop
    omega
  · omega
/-- What is told, from cursors on: L: what was told; go: whether to go on. -/
def runL (go : List (Int × S32) → Bool) : Nat → List Qu → Option ByteArray → List (Int × S32) → List (Int × S32)
  | 0, _, _, L => L
  | _ + 1, [], _, L => L
  | f + 1, q :: t, last, L => if last = some q.key then runL go f (nextL (q :: t)) last L else if go (L ++ [(q.x.row, q.l.headD z32)]) then runL go f (nextL (q :: t)) (some q.key) (L ++ [(q.x.row, q.l.headD z32)]) else L ++ [(q.x.row, q.l.headD z32)]
theorem runL_step (go : List (Int × S32) → Bool) {q : Qu} {t : List Qu} (hh : Heap (q :: t)) (h : 0 < q.l.length) (last : Option ByteArray) (L : List (Int × S32)) :
    runL go (total (q :: t)) (q :: t) last L = if last = some q.key then runL go (total (nextL (q :: t))) (nextL (q :: t)) last L else if go (L ++ [(q.x.row, q.l.headD z32)]) then runL go (total (nextL (q :: t))) (nextL (q :: t)) (some q.key) (L ++ [(q.x.row, q.l.headD z32)]) else L ++ [(q.x.row, q.l.headD z32)] := by
  rw [← next_total hh h]
  rfl
theorem str_ne {a b : ByteArray} (h : a ≠ b) : (a.toList == b.toList) = false := by
  rw [beq_eq_false_iff_ne, Lib.toList_data, Lib.toList_data]
  exact fun e => h (by apply ByteArray.ext; exact Array.toList_inj.1 e)
/-- The rows that are not empty, with their numbers, from i on. -/
def live : Nat → List (List S32) → List (Int × List S32)
  | _, [] => []
  | i, l :: r => if l.length = 0 then live (i + 1) r else ((i : Int), l) :: live (i + 1) r
theorem live_append : ∀ (i : Nat) (a b : List (List S32)), live i (a ++ b) = live i a ++ live (i + a.length) b
  | i, [], b => rfl
  | i, l :: r, b => by
    have ih := live_append (i + 1) r b
    rw [show i + 1 + r.length = i + (l :: r).length by simp; omega] at ih
    simp only [List.cons_append, live]
    split
    · exact ih
    · rw [ih]; rfl
theorem live_length : ∀ (i : Nat) (a : List (List S32)), (live i a).length ≤ a.length
  | i, [] => Nat.le_refl _
  | i, l :: r => by
    have ih := live_length (i + 1) r
    simp only [live]
    split
    · simp; omega
    · simp; omega
theorem live_sum : ∀ (i : Nat) (a : List (List S32)), ((live i a).map fun x => x.2.length).sum = (a.map List.length).sum
  | i, [] => rfl
  | i, l :: r => by
    have ih := live_sum (i + 1) r
    simp only [live]
    split
    · rename_i h; simp [ih, h]
    · simp [ih]
def Start (rows : List (List S32)) (qs : List Qu) : Prop := Heap qs ∧ ∃ ws, qs.Perm ws ∧ ws.map (fun q => (q.x.row, q.l)) = live 0 rows
theorem start_nil : Start [] [] := ⟨fun i h0 h => by simp at h, [], List.Perm.refl _, rfl⟩
theorem start_push {rows : List (List S32)} {qs : List Qu} {i : Nat} {x : Cu} {l : List S32} (h : Start (rows.take i) qs) (hi : i < rows.length) (hl : rows[i] = l) (h0 : 0 < l.length) (hx : x.row = (i : Int)) : Start (rows.take (i + 1)) (upL (qs.length + 1) (qs ++ [⟨x, l⟩]) qs.length) := by
  obtain ⟨hh, ws, hp, hw⟩ := h
  refine ⟨upL_heap _ _ _ (by omega) (by simp) ⟨fun k k0 hk hne => ?_, fun k hk hp2 h2 => ?_⟩, ws ++ [⟨x, l⟩], (upL_perm _ _ _).trans (hp.append_right _), ?_⟩
  · simp only [List.length_append, List.length_singleton] at hk
    have hg : ∀ j, j < qs.length → g (qs ++ [⟨x, l⟩]) j = g qs j := fun j hj => by
      unfold g
      simp only [List.getD_eq_getElem?_getD]
      rw [List.getElem?_append_left hj]
    rw [hg k (by omega), hg _ (by omega)]
    exact hh k k0 (by omega)
  · simp only [List.length_append, List.length_singleton] at hk
    omega
  · rw [List.map_append, hw, List.take_succ_eq_append_getElem hi, live_append, hl, List.length_take, Nat.min_eq_left (Nat.le_of_lt hi)]
    simp only [live, List.map_cons, List.map_nil]
    rw [if_neg (by omega), hx]
    simp
theorem start_skip {rows : List (List S32)} {qs : List Qu} {i : Nat} {l : List S32} (h : Start (rows.take i) qs) (hi : i < rows.length) (hl : rows[i] = l) (h0 : ¬ 0 < l.length) : Start (rows.take (i + 1)) qs := by
  obtain ⟨hh, ws, hp, hw⟩ := h
  refine ⟨hh, ws, hp, ?_⟩
  rw [hw, List.take_succ_eq_append_getElem hi, live_append, hl]
  simp only [live]
  rw [if_pos (by omega)]
  simp
theorem start_len {rows : List (List S32)} {qs : List Qu} (h : Start rows qs) : qs.length ≤ rows.length := by
  obtain ⟨_, ws, hp, hw⟩ := h
  have h1 : ws.length = (live 0 rows).length := by rw [← hw, List.length_map]
  have h2 := live_length 0 rows
  rw [hp.length_eq]
  omega
theorem start_total {rows : List (List S32)} {qs : List Qu} (h : Start rows qs) : total qs = (rows.map List.length).sum := by
  obtain ⟨_, ws, hp, hw⟩ := h
  rw [total_perm hp, ← live_sum 0 rows, ← hw, List.map_map]
  rfl
end Go.Proofs.Ytcdgenoakpmlbaa.Mix
