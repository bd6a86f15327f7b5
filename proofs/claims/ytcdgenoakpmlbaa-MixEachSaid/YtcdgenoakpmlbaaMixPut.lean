/- What the document's Cut, Put and Merge come to, and that Each tells the same. -/
import Derived.Test.YtcdgenoakpmlbaaMixRef
namespace Go.Proofs.Ytcdgenoakpmlbaa.Mix
open Go.RowKit Go.Proofs.YtcdgenoakpmlbaaW.PrintWords Go.Proofs.YtcdgenoakpmlbaaW.PrintLast Go.Proofs.YtcdgenoakpmlbaaW.PrintMore
open Go.Proofs.Ytcdgenoakpmlbaa Go.Proofs.Ytcdgenoakpmlbaa.Vals Go.Proofs.Ytcdgenoakpmlbaa.Q
set_option linter.unusedVariables false
set_option linter.unusedSimpArgs false

theorem toList_inj {a b : ByteArray} (h : a.toList = b.toList) : a = b := by
  rw [Lib.toList_data, Lib.toList_data] at h
  apply ByteArray.ext
  exact Array.toList_inj.1 h
def isK (key : ByteArray) (p : S32) : Bool := p.f0.toList == key.toList
theorem isK_iff {key : ByteArray} {p : S32} : isK key p = true ↔ p.f0 = key := by
  unfold isK
  rw [beq_iff_eq]
  exact ⟨toList_inj, fun h => by rw [h]⟩
def cutB (l : List S32) (key : ByteArray) : List S32 := l.filter fun p => !isK key p
theorem cut_ev (l : List S32) (key : ByteArray) (hl : l.length ≤ 1000000) : Ev (fun k => sluicegateref11_Cut.f k l key) (cutB l key) := by
  have main : ∀ (d i : Nat), l.length - i = d → i ≤ l.length → Ev (fun k => sluicegateref11_Cut.l0 k l key ((l.take i).filter fun p => !isK key p) (i : Int)) (cutB l key) := by
    intro d
    induction d with
    | zero =>
      intro i hd hi
      refine Ev.step (f := fun k => some ((l.take i).filter fun p => !isK key p)) (fun k => by simp only [sluicegateref11_Cut.l0]; rw [if_neg (by omega)]) ?_
      rw [List.take_of_length_le (by omega)]
      exact Ev.now _
    | succ d ih =>
      intro i hd hi
      have hi2 : i < l.length := by omega
      have ih1 := ih (i + 1) (by omega) (by omega)
      rw [List.take_succ_eq_append_getElem hi2, List.filter_append] at ih1
      have hlen : ((l.take i).filter fun p => !isK key p).length < 4398046511104 := by
        have := List.length_filter_le (fun p => !isK key p) (l.take i)
        rw [List.length_take] at this
        omega
      by_cases hk : isK key l[i] = true
      · have e : (l[i]).f0.toList = key.toList := beq_iff_eq.1 hk
        refine Ev.step (f := fun k => sluicegateref11_Cut.l0 k l key ((l.take i).filter fun p => !isK key p) (wrap64 ((i : Int) + 1))) (fun k => by
          simp only [sluicegateref11_Cut.l0]; rw [if_pos (by omega), if_pos (by omega), rd_is hi2, if_pos e]) ?_
        rw [w64n (n := l.length) hi2 (by omega)]
        have : [l[i]].filter (fun p => !isK key p) = [] := by simp [hk]
        rw [this, List.append_nil] at ih1
        exact ih1
      · have e : ¬ (l[i]).f0.toList = key.toList := fun h => hk (beq_iff_eq.2 h)
        refine Ev.step (f := fun k => sluicegateref11_Cut.l0 k l key (((l.take i).filter fun p => !isK key p) ++ [l[i]]) (wrap64 ((i : Int) + 1))) (fun k => by
          simp only [sluicegateref11_Cut.l0]; rw [if_pos (by omega), if_pos (by omega), rd_is hi2, if_neg e, if_pos hlen]) ?_
        rw [w64n (n := l.length) hi2 (by omega)]
        have : [l[i]].filter (fun p => !isK key p) = [l[i]] := by simp [hk]
        rw [this] at ih1
        exact ih1
  exact main _ 0 rfl (by omega)
def before (key : ByteArray) (p : S32) : Bool := decide (cmp p.f0 key < 0)
def putB (l : List S32) (key val : ByteArray) : List S32 := (cutB l key).takeWhile (before key) ++ ⟨key, val⟩ :: (cutB l key).dropWhile (before key)
theorem cutB_few {l : List S32} {key : ByteArray} (h : Few l) : Few (cutB l key) := by
  refine ⟨Nat.le_trans (List.length_filter_le _ _) h.1, fun p hp => h.2 p (List.mem_filter.1 hp).1⟩
theorem put_ev0 (c : List S32) (key val : ByteArray) (hf : Few c) (hc : c.length ≤ 1000000) :
    ∀ (d i : Nat), c.length - i = d → i ≤ c.length → (c.take i).all (before key) = true → Ev (fun k => sluicegateref11_Put.l0 k c key val (i : Int)) (c.takeWhile (before key) ++ ⟨key, val⟩ :: c.dropWhile (before key)) := by
  have hfin : ∀ i, i ≤ c.length → (c.take i).all (before key) = true → (∀ h : i < c.length, before key c[i] = false) → c.take i ++ [⟨key, val⟩] ++ c.drop i = c.takeWhile (before key) ++ ⟨key, val⟩ :: c.dropWhile (before key) := by
    intro i hi ha hs
    have h1 : c.takeWhile (before key) = c.take i ∧ c.dropWhile (before key) = c.drop i := by
      have e : c = c.take i ++ c.drop i := (List.take_append_drop i c).symm
      constructor
      · conv => lhs; rw [e]
        rw [List.takeWhile_append_of_pos (fun x hx => List.all_eq_true.1 ha x hx)]
        by_cases h : i < c.length
        · rw [List.drop_eq_getElem_cons h, List.takeWhile_cons, hs h]
          simp
        · rw [List.drop_eq_nil_of_le (by omega)]
          simp
      · conv => lhs; rw [e]
        rw [List.dropWhile_append_of_pos (fun x hx => List.all_eq_true.1 ha x hx)]
        by_cases h : i < c.length
        · rw [List.drop_eq_getElem_cons h, List.dropWhile_cons, hs h]
          simp
        · rw [List.drop_eq_nil_of_le (by omega)]
          simp
    rw [h1.1, h1.2]
    simp
  intro d
  induction d with
  | zero =>
    intro i hd hi ha
    have hl : (c.take i).length = i := by rw [List.length_take]; omega
    refine Ev.step (f := fun k => some (c.take i ++ [⟨key, val⟩] ++ c.drop i)) (fun k => by
      simp only [sluicegateref11_Put.l0, Option.bind_some, Int.toNat_natCast, List.nil_append, List.length_nil, List.length_append, List.length_singleton, List.length_drop, hl]
      rw [if_neg (by omega), if_pos (by omega), if_pos (by omega), if_pos (by omega), if_pos (by omega), if_pos (by omega)]) ?_
    rw [hfin i hi ha (fun h => by omega)]
    exact Ev.now _
  | succ d ih =>
    intro i hd hi ha
    have hi2 : i < c.length := by omega
    have hl : (c.take i).length = i := by rw [List.length_take]; omega
    refine Ev.step (f := fun k => (sluicegateref01_Compare.f k (c[i]).f0 key).bind fun t134 => if t134 < 0 then sluicegateref11_Put.l0 k c key val (wrap64 ((i : Int) + 1)) else some (c.take i ++ [⟨key, val⟩] ++ c.drop i)) (fun k => by
      simp only [sluicegateref11_Put.l0, Option.bind_some, Int.toNat_natCast, List.nil_append, List.length_nil, List.length_append, List.length_singleton, List.length_drop, hl]
      rw [if_pos (by omega), if_pos (by omega), rd_is hi2, if_pos (by omega), if_pos (by omega), if_pos (by omega), if_pos (by omega)]) ?_
    refine Ev.bind (cmp_ev _ _ (hf.2 _ (List.getElem_mem hi2))) ?_
    by_cases hlt : cmp (c[i]).f0 key < 0
    · simp only [if_pos hlt]
      rw [w64n (n := c.length) hi2 (by omega)]
      refine ih (i + 1) (by omega) (by omega) ?_
      rw [List.take_succ_eq_append_getElem hi2, List.all_append, ha]
      simp [before, hlt]
    · simp only [if_neg hlt]
      rw [hfin i hi ha (fun h => by simp [before, hlt])]
      exact Ev.now _
theorem put_ev (l : List S32) (key val : ByteArray) (hf : Few l) (hl : l.length ≤ 1000000) : Ev (fun k => sluicegateref11_Put.f k l key val) (putB l key val) := by
  refine Ev.bind (cut_ev l key hl) ?_
  exact put_ev0 (cutB l key) key val (cutB_few hf) (Nat.le_trans (List.length_filter_le _ _) hl) _ 0 rfl (by omega) (by simp)
theorem putB_length (l : List S32) (key val : ByteArray) : (putB l key val).length ≤ l.length + 1 := by
  unfold putB
  have h1 : ((cutB l key).takeWhile (before key)).length + ((cutB l key).dropWhile (before key)).length = (cutB l key).length := by
    rw [← List.length_append, List.takeWhile_append_dropWhile]
  have h2 : (cutB l key).length ≤ l.length := List.length_filter_le _ _
  rw [List.length_append, List.length_cons]
  omega
theorem mem_putB {l : List S32} {key val : ByteArray} {p : S32} : p ∈ putB l key val ↔ p = ⟨key, val⟩ ∨ (p ∈ l ∧ p.f0 ≠ key) := by
  have h1 : p ∈ cutB l key ↔ p ∈ l ∧ p.f0 ≠ key := by
    unfold cutB
    rw [List.mem_filter]
    refine and_congr Iff.rfl ?_
    rw [Bool.not_eq_true', ← Bool.not_eq_true, isK_iff]
  have h2 : p ∈ cutB l key ↔ p ∈ (cutB l key).takeWhile (before key) ∨ p ∈ (cutB l key).dropWhile (before key) := by
    rw [← List.mem_append, List.takeWhile_append_dropWhile]
  unfold putB
  rw [List.mem_append, List.mem_cons, ← h1, h2]
  constructor
  · rintro (h | h | h)
    · exact Or.inr (Or.inl h)
    · exact Or.inl h
    · exact Or.inr (Or.inr h)
  · rintro (h | h | h)
    · exact Or.inr (Or.inl h)
    · exact Or.inl h
    · exact Or.inr (Or.inr h)
theorem putB_few {l : List S32} {key val : ByteArray} (h : Few l) (hl : l.length ≤ 1000000) (hk : key.size ≤ 140737488355328) : Few (putB l key val) := by
  have := putB_length l key val
  refine ⟨by omega, fun p hp => ?_⟩
  rcases mem_putB.1 hp with rfl | hp
  · exact hk
  · exact h.2 p hp.1
theorem dropWhile_behind {key : ByteArray} : ∀ {l : List S32}, Sorted l → (∀ p ∈ l, p.f0 ≠ key) → ∀ p ∈ l.dropWhile (before key), cmp key p.f0 < 0
  | [], _, _, p, hp => by simp at hp
  | a :: r, hs, hk, p, hp => by
    rw [List.dropWhile_cons] at hp
    by_cases hb : before key a = true
    · rw [if_pos hb] at hp
      exact dropWhile_behind (List.pairwise_cons.1 hs).2 (fun p hp => hk p (List.mem_cons_of_mem _ hp)) p hp
    · rw [if_neg hb] at hp
      have h1 : ¬ cmp a.f0 key < 0 := fun h => hb (decide_eq_true h)
      have h2 : cmp a.f0 key ≠ 0 := fun h => hk a List.mem_cons_self (cmp_zero h)
      have h3 := cmp_flip a.f0 key
      rcases List.mem_cons.1 hp with rfl | hp
      · omega
      · exact cmp_trans (by omega) ((List.pairwise_cons.1 hs).1 p hp)
theorem putB_sorted {l : List S32} {key val : ByteArray} (h : Sorted l) : Sorted (putB l key val) := by
  have hc : Sorted (cutB l key) := List.Pairwise.filter _ h
  have hne : ∀ p ∈ cutB l key, p.f0 ≠ key := fun p hp e => by
    have := (List.mem_filter.1 hp).2
    rw [isK_iff.2 e] at this
    cases this
  have hd := dropWhile_behind hc hne
  have ht : ∀ p ∈ (cutB l key).takeWhile (before key), cmp p.f0 key < 0 := fun p hp => by
    have h1 := List.all_eq_true.1 (List.all_takeWhile (p := before key) (l := cutB l key)) p hp
    exact of_decide_eq_true h1
  have hs2 : Sorted ((cutB l key).takeWhile (before key) ++ (cutB l key).dropWhile (before key)) := by rw [List.takeWhile_append_dropWhile]; exact hc
  obtain ⟨s1, s2, s3⟩ := List.pairwise_append.1 hs2
  refine List.pairwise_append.2 ⟨s1, List.pairwise_cons.2 ⟨fun p hp => hd p hp, s2⟩, fun a ha b hb => ?_⟩
  rcases List.mem_cons.1 hb with rfl | hb
  · exact ht a ha
  · exact s3 a ha b hb
/-- A row laid over pairs. -/
def overB (acc row : List S32) : List S32 := row.foldl (fun a p => putB a p.f0 p.f1) acc
def mergeB (rows : List (List S32)) : List S32 := rows.foldr (fun row acc => overB acc row) []
theorem overB_spec : ∀ (row acc : List S32), Sorted row → Sorted acc → Sorted (overB acc row) ∧ ∀ p, p ∈ overB acc row ↔ p ∈ row ∨ (p ∈ acc ∧ ∀ p' ∈ row, p'.f0 ≠ p.f0)
  | [], acc, _, ha => ⟨ha, fun p => by simp [overB]⟩
  | a :: r, acc, hs, ha => by
    obtain ⟨h1, h2⟩ := List.pairwise_cons.1 hs
    obtain ⟨g1, g2⟩ := overB_spec r (putB acc a.f0 a.f1) h2 (putB_sorted ha)
    refine ⟨g1, fun p => ?_⟩
    rw [show overB acc (a :: r) = overB (putB acc a.f0 a.f1) r from rfl, g2, mem_putB]
    have hne : ∀ p' ∈ r, p'.f0 ≠ a.f0 := fun p' hp' e => by
      have := h1 p' hp'
      rw [e, cmp_self] at this
      omega
    constructor
    · rintro (h | ⟨h | h, h3⟩)
      · exact Or.inl (List.mem_cons_of_mem _ h)
      · exact Or.inl (by rw [h]; exact List.mem_cons_self)
      · refine Or.inr ⟨h.1, fun p' hp' => ?_⟩
        rcases List.mem_cons.1 hp' with rfl | hp'
        · exact fun e => h.2 e.symm
        · exact h3 p' hp'
    · rintro (h | ⟨h, h3⟩)
      · rcases List.mem_cons.1 h with rfl | h
        · exact Or.inr ⟨Or.inl rfl, hne⟩
        · exact Or.inl h
      · exact Or.inr ⟨Or.inr ⟨h, fun e => h3 a List.mem_cons_self e.symm⟩, fun p' hp' => h3 p' (List.mem_cons_of_mem _ hp')⟩
theorem mergeB_spec : ∀ (rows : List (List S32)), (∀ l ∈ rows, Sorted l) → Sorted (mergeB rows) ∧ ∀ p, p ∈ mergeB rows ↔ ∃ i, ∃ h : i < rows.length, p ∈ rows[i] ∧ ∀ j (hj : j < i), ∀ p' ∈ rows[j]'(by omega), p'.f0 ≠ p.f0
  | [], _ => ⟨List.Pairwise.nil, fun p => by simp [mergeB]⟩
  | row :: rest, hs => by
    obtain ⟨g1, g2⟩ := mergeB_spec rest (fun l hl => hs l (List.mem_cons_of_mem _ hl))
    obtain ⟨f1, f2⟩ := overB_spec row (mergeB rest) (hs row List.mem_cons_self) g1
    refine ⟨f1, fun p => ?_⟩
    rw [show mergeB (row :: rest) = overB (mergeB rest) row from rfl, f2, g2]
    constructor
    · rintro (h | ⟨⟨i, hi, hp, hn⟩, h3⟩)
      · exact ⟨0, by simp, h, fun j hj => by omega⟩
      · refine ⟨i + 1, by simp; omega, hp, fun j hj p' hp' => ?_⟩
        cases j with
        | zero => exact h3 p' hp'
        | succ j => exact hn j (by omega) p' hp'
    · rintro ⟨i, hi, hp, hn⟩
      cases i with
      | zero => exact Or.inl hp
      | succ i => exact Or.inr ⟨⟨i, by simp at hi; omega, hp, fun j hj p' hp' => hn (j + 1) (by omega) p' hp'⟩, fun p' hp' => hn 0 (by omega) p' hp'⟩
theorem sorted_ext : ∀ {a b : List S32}, Sorted a → Sorted b → (∀ p, p ∈ a ↔ p ∈ b) → a = b
  | [], [], _, _, _ => rfl
  | [], b :: s, _, _, h => by have := (h b).2 List.mem_cons_self; simp at this
  | a :: r, [], _, _, h => by have := (h a).1 List.mem_cons_self; simp at this
  | a :: r, b :: s, ha, hb, h => by
    obtain ⟨a1, a2⟩ := List.pairwise_cons.1 ha
    obtain ⟨b1, b2⟩ := List.pairwise_cons.1 hb
    have e : a = b := by
      rcases List.mem_cons.1 ((h a).1 List.mem_cons_self) with e | h1
      · exact e
      · rcases List.mem_cons.1 ((h b).2 List.mem_cons_self) with e | h2
        · exact e.symm
        · have g1 := b1 a h1
          have g2 := a1 b h2
          have g3 := cmp_flip a.f0 b.f0
          omega
    subst e
    have : r = s := sorted_ext a2 b2 (fun p => by
      have hp := h p
      rw [List.mem_cons, List.mem_cons] at hp
      constructor
      · intro hr
        rcases hp.1 (Or.inr hr) with rfl | h1
        · have := a1 p hr; rw [cmp_self] at this; omega
        · exact h1
      · intro hr
        rcases hp.2 (Or.inr hr) with rfl | h1
        · have := b1 p hr; rw [cmp_self] at this; omega
        · exact h1)
    rw [this]
end Go.Proofs.Ytcdgenoakpmlbaa.Mix
