/- What Each tells: no program. -/
import Derived.Test.YtcdgenoakpmlbaaMixStart
namespace Go.Proofs.Ytcdgenoakpmlbaa.Mix
open Go.RowKit Go.Proofs.YtcdgenoakpmlbaaW.PrintWords Go.Proofs.YtcdgenoakpmlbaaW.PrintLast Go.Proofs.YtcdgenoakpmlbaaW.PrintMore
open Go.Proofs.Ytcdgenoakpmlbaa Go.Proofs.Ytcdgenoakpmlbaa.Vals Go.Proofs.Ytcdgenoakpmlbaa.Q
set_option linter.unusedVariables false
set_option linter.unusedSimpArgs false

def tell : Nat → List Qu → Option ByteArray → List (Int × S32)
  | 0, _, _ => []
  | _ + 1, [], _ => []
  | f + 1, q :: t, last => if last = some q.key then tell f (nextL (q :: t)) last else (q.x.row, q.l.headD z32) :: tell f (nextL (q :: t)) (some q.key)
def cutL (go : List (Int × S32) → Bool) : List (Int × S32) → List (Int × S32) → List (Int × S32)
  | L, [] => L
  | L, x :: r => if go (L ++ [x]) then cutL go (L ++ [x]) r else L ++ [x]
theorem runL_tell (go : List (Int × S32) → Bool) : ∀ (f : Nat) (qs : List Qu) (last : Option ByteArray) (L : List (Int × S32)), runL go f qs last L = cutL go L (tell f qs last)
  | 0, _, _, _ => rfl
  | _ + 1, [], _, _ => rfl
  | f + 1, q :: t, last, L => by
    simp only [runL, tell]
    by_cases h : last = some q.key
    · rw [if_pos h, if_pos h, runL_tell go f]
    · rw [if_neg h, if_neg h, cutL]
      by_cases h2 : go (L ++ [(q.x.row, q.l.headD z32)]) = true
      · rw [if_pos h2, if_pos h2, runL_tell go f]
      · rw [if_neg h2, if_neg h2]
def Sorted (l : List S32) : Prop := l.Pairwise fun a b => cmp a.f0 b.f0 < 0
structure Good (qs : List Qu) (last : Option ByteArray) : Prop where
  heap : Heap qs
  each : ∀ q ∈ qs, 0 < q.l.length ∧ Sorted q.l
  apart : qs.Pairwise fun a b => a.x.row ≠ b.x.row
  last_ : ∀ k, last = some k → ∀ q ∈ qs, ∀ p ∈ q.l, ¬ cmp p.f0 k < 0
def Spec (qs : List Qu) (last : Option ByteArray) (T : List (Int × S32)) : Prop :=
  (T.Pairwise fun a b => cmp a.2.f0 b.2.f0 < 0) ∧ ∀ r p, (r, p) ∈ T ↔ (∃ q ∈ qs, q.x.row = r ∧ p ∈ q.l) ∧ (∀ k, last = some k → cmp k p.f0 < 0) ∧ (∀ q ∈ qs, (∃ p' ∈ q.l, p'.f0 = p.f0) → r ≤ q.x.row)
theorem root_min {qs : List Qu} (h : Heap qs) : ∀ i, i < qs.length → lt (g qs i) (g qs 0) = false := by
  intro i
  induction i using Nat.strongRecOn with
  | _ i ih =>
    intro hi
    rcases Nat.eq_zero_or_pos i with rfl | h0
    · exact lt_irrefl _
    · exact le_trans' (ih ((i - 1) / 2) (by omega) (by omega)) (h i h0 hi)
theorem head_min {q : Qu} {t : List Qu} (h : Heap (q :: t)) {q' : Qu} (hq : q' ∈ q :: t) : lt q' q = false := by
  obtain ⟨i, hi, rfl⟩ := List.getElem_of_mem hq
  have := root_min h i hi
  rw [g_is hi] at this
  exact this
/-- A row that is not empty begins with its key; all others are behind it. -/
theorem row_open {q : Qu} (h0 : 0 < q.l.length) (hs : Sorted q.l) : ∃ p r, q.l = p :: r ∧ q.key = p.f0 ∧ q.l.headD z32 = p ∧ (∀ p' ∈ r, cmp p.f0 p'.f0 < 0) ∧ q.cut.l = r ∧ Sorted r := by
  unfold Sorted at hs
  unfold Qu.key Qu.cut
  cases hl : q.l with
  | nil => rw [hl] at h0; simp at h0
  | cons p r =>
    rw [hl] at hs
    exact ⟨p, r, rfl, rfl, rfl, (List.pairwise_cons.1 hs).1, rfl, (List.pairwise_cons.1 hs).2⟩
theorem key_least {q : Qu} (h0 : 0 < q.l.length) (hs : Sorted q.l) {p : S32} (hp : p ∈ q.l) : ¬ cmp p.f0 q.key < 0 := by
  obtain ⟨p0, r, hl, hk, _, hr, _⟩ := row_open h0 hs
  rw [hk]
  rw [hl] at hp
  rcases List.mem_cons.1 hp with rfl | hp
  · rw [cmp_self]; omega
  · have h1 := hr p hp
    have h2 := cmp_flip p0.f0 p.f0
    omega
theorem cmp_le_trans {a b c : ByteArray} (h1 : ¬ cmp a b < 0) (h2 : ¬ cmp b c < 0) : ¬ cmp a c < 0 := by
  intro h
  have f1 := cmp_flip a b
  have f2 := cmp_flip b c
  by_cases e : cmp a b = 0
  · rw [cmp_zero e] at h; exact h2 h
  · exact h2 (cmp_trans (a := b) (b := a) (by omega) h)
theorem cmp_eq {a b : ByteArray} (h1 : ¬ cmp a b < 0) (h2 : ¬ cmp b a < 0) : a = b := cmp_zero (by have := cmp_flip a b; omega)
theorem mem_next {q : Qu} {t : List Qu} (h : Heap (q :: t)) (q' : Qu) : q' ∈ nextL (q :: t) ↔ (1 < q.l.length ∧ q' = q.cut) ∨ q' ∈ t := by
  rw [(next_perm h).mem_iff]
  split
  · rename_i h1; simp [h1]
  · rename_i h1; simp [h1]
theorem next_far {q : Qu} {t : List Qu} (h : Heap (q :: t)) (h0 : 0 < q.l.length) (hs : Sorted q.l) {key : ByteArray} (hk : cmp q.key key < 0) (P : Int → S32 → Prop) (hP : ∀ r p, P r p → p.f0 = key) :
    (∃ q' ∈ q :: t, ∃ p ∈ q'.l, P q'.x.row p) ↔ (∃ q' ∈ nextL (q :: t), ∃ p ∈ q'.l, P q'.x.row p) := by
  obtain ⟨p0, r, hl, hke, _, hr, hc, _⟩ := row_open h0 hs
  constructor
  · rintro ⟨q', hq, p, hp, hPp⟩
    rcases List.mem_cons.1 hq with rfl | hq
    · rw [hl] at hp
      rcases List.mem_cons.1 hp with rfl | hp
      · exfalso
        rw [hke, hP _ _ hPp, cmp_self] at hk
        omega
      · refine ⟨q'.cut, (mem_next h _).2 (Or.inl ⟨?_, rfl⟩), p, by rw [hc]; exact hp, hPp⟩
        have := List.length_pos_of_mem hp
        rw [hl, List.length_cons]
        omega
    · exact ⟨q', (mem_next h _).2 (Or.inr hq), p, hp, hPp⟩
  · rintro ⟨q', hq, p, hp, hPp⟩
    rcases (mem_next h _).1 hq with ⟨_, rfl⟩ | hq
    · exact ⟨q, List.mem_cons_self, p, by rw [hl]; rw [hc] at hp; exact List.mem_cons_of_mem _ hp, hPp⟩
    · exact ⟨q', List.mem_cons_of_mem _ hq, p, hp, hPp⟩
theorem next_good {q : Qu} {t : List Qu} {last last' : Option ByteArray} (h : Good (q :: t) last) (hl : ∀ k, last' = some k → ∀ q' ∈ q :: t, ∀ p ∈ q'.l, ¬ cmp p.f0 k < 0) : Good (nextL (q :: t)) last' := by
  obtain ⟨h0, hs⟩ := h.each q List.mem_cons_self
  obtain ⟨p0, r, hle, hke, _, hr, hc, hsr⟩ := row_open h0 hs
  have hp := List.pairwise_cons.1 h.apart
  refine ⟨next_heap h.heap, fun q' hq => ?_, ?_, fun k hk q' hq p hpm => ?_⟩
  · rcases (mem_next h.heap _).1 hq with ⟨h1, rfl⟩ | hq
    · rw [hc]
      rw [hle, List.length_cons] at h1
      exact ⟨by omega, hsr⟩
    · exact h.each q' (List.mem_cons_of_mem _ hq)
  · refine ((next_perm h.heap).pairwise_iff (fun {a b} hab => fun e => hab e.symm)).2 ?_
    split
    · exact List.pairwise_cons.2 ⟨hp.1, hp.2⟩
    · exact hp.2
  · rcases (mem_next h.heap _).1 hq with ⟨h1, rfl⟩ | hq
    · rw [hc] at hpm
      exact hl k hk q List.mem_cons_self p (by rw [hle]; exact List.mem_cons_of_mem _ hpm)
    · exact hl k hk q' (List.mem_cons_of_mem _ hq) p hpm
theorem spec_nil (last : Option ByteArray) : Spec [] last [] := ⟨List.Pairwise.nil, fun r p => by simp⟩
theorem tell_spec : ∀ (f : Nat) (qs : List Qu) (last : Option ByteArray), Good qs last → total qs = f → Spec qs last (tell f qs last)
  | 0, [], last, _, _ => spec_nil last
  | 0, q :: t, last, h, ht => by
    have := (h.each q List.mem_cons_self).1
    rw [total_cons] at ht
    omega
  | f + 1, [], last, _, _ => spec_nil last
  | f + 1, q :: t, last, h, ht => by
    obtain ⟨h0, hs⟩ := h.each q List.mem_cons_self
    obtain ⟨p0, r0, hle, hke, hhd, hr, hc, hsr⟩ := row_open h0 hs
    have hnt := next_total h.heap h0
    have hall : ∀ q' ∈ q :: t, ∀ p ∈ q'.l, ¬ cmp p.f0 q.key < 0 := fun q' hq p hp => by
      obtain ⟨h0', hs'⟩ := h.each q' hq
      have h1 := head_min h.heap hq
      have h2 : ¬ cmp q'.key q.key < 0 := fun hh => by rw [(lt_iff _ _).2 (Or.inl hh)] at h1; cases h1
      exact cmp_le_trans (key_least h0' hs' hp) h2
    -- behind the least key nothing turns
    have hfar : ∀ (r : Int) (p : S32), cmp q.key p.f0 < 0 → (((∃ q' ∈ q :: t, q'.x.row = r ∧ p ∈ q'.l) ↔ (∃ q' ∈ nextL (q :: t), q'.x.row = r ∧ p ∈ q'.l)) ∧ ((∀ q' ∈ q :: t, (∃ p' ∈ q'.l, p'.f0 = p.f0) → r ≤ q'.x.row) ↔ (∀ q' ∈ nextL (q :: t), (∃ p' ∈ q'.l, p'.f0 = p.f0) → r ≤ q'.x.row))) := fun r p hk => by
      have n1 := next_far h.heap h0 hs hk (fun r' p' => r' = r ∧ p' = p) (fun r' p' hp => by rw [hp.2])
      have n2 := next_far h.heap h0 hs hk (fun r' p' => p'.f0 = p.f0 ∧ ¬ r ≤ r') (fun r' p' hp => hp.1)
      constructor
      · constructor
        · rintro ⟨q', hq, e, hp⟩
          obtain ⟨q2, hq2, p2, hp2, e2, rfl⟩ := n1.1 ⟨q', hq, p, hp, e, rfl⟩
          exact ⟨q2, hq2, e2, hp2⟩
        · rintro ⟨q', hq, e, hp⟩
          obtain ⟨q2, hq2, p2, hp2, e2, rfl⟩ := n1.2 ⟨q', hq, p, hp, e, rfl⟩
          exact ⟨q2, hq2, e2, hp2⟩
      · constructor
        · rintro hA q' hq ⟨p', hp', e⟩
          by_cases hle : r ≤ q'.x.row
          · exact hle
          · obtain ⟨q2, hq2, p2, hp2, e2, hn⟩ := n2.2 ⟨q', hq, p', hp', e, hle⟩
            exact absurd (hA q2 hq2 ⟨p2, hp2, e2⟩) hn
        · rintro hA q' hq ⟨p', hp', e⟩
          by_cases hle : r ≤ q'.x.row
          · exact hle
          · obtain ⟨q2, hq2, p2, hp2, e2, hn⟩ := n2.1 ⟨q', hq, p', hp', e, hle⟩
            exact absurd (hA q2 hq2 ⟨p2, hp2, e2⟩) hn
    simp only [tell]
    by_cases hl : last = some q.key
    · rw [if_pos hl]
      obtain ⟨s1, s2⟩ := tell_spec f (nextL (q :: t)) last (next_good h h.last_) (by omega)
      refine ⟨s1, fun r p => ?_⟩
      rw [s2]
      constructor
      · rintro ⟨a, b, c⟩
        obtain ⟨n1, n2⟩ := hfar r p (b _ hl)
        exact ⟨n1.2 a, b, n2.2 c⟩
      · rintro ⟨a, b, c⟩
        obtain ⟨n1, n2⟩ := hfar r p (b _ hl)
        exact ⟨n1.1 a, b, n2.1 c⟩
    · rw [if_neg hl, hhd]
      obtain ⟨s1, s2⟩ := tell_spec f (nextL (q :: t)) (some q.key) (next_good h (fun k hk => by cases hk; exact hall)) (by omega)
      have hlast : ∀ k, last = some k → cmp k q.key < 0 := fun k hk => by
        have h1 := h.last_ k hk q List.mem_cons_self p0 (by rw [hle]; exact List.mem_cons_self)
        rw [← hke] at h1
        have h2 := cmp_flip k q.key
        have h3 : cmp k q.key ≠ 0 := fun e => hl (by rw [hk, cmp_zero e])
        omega
      refine ⟨List.pairwise_cons.2 ⟨fun x hx => ?_, s1⟩, fun r p => ?_⟩
      · have := ((s2 x.1 x.2).1 hx).2.1 _ rfl
        rw [hke] at this
        exact this
      · rw [List.mem_cons, s2]
        constructor
        · rintro (e | ⟨a, b, c⟩)
          · injection e with e1 e2
            subst e1 e2
            refine ⟨⟨q, List.mem_cons_self, rfl, by rw [hle]; exact List.mem_cons_self⟩, fun k hk => by rw [← hke]; exact hlast k hk, fun q' hq ⟨p', hp', e⟩ => ?_⟩
            have h1 := head_min h.heap hq
            obtain ⟨h0', hs'⟩ := h.each q' hq
            have h2 := key_least h0' hs' hp'
            rw [e, ← hke] at h2
            have h3 : ¬ cmp q'.key q.key < 0 := fun hh => by rw [(lt_iff _ _).2 (Or.inl hh)] at h1; cases h1
            have h4 : q'.key = q.key := cmp_eq h3 h2
            by_cases h5 : q'.x.row < q.x.row
            · rw [(lt_iff _ _).2 (Or.inr ⟨h4, h5⟩)] at h1; cases h1
            · omega
          · obtain ⟨n1, n2⟩ := hfar r p (b _ rfl)
            exact ⟨n1.2 a, fun k hk => cmp_trans (hlast k hk) (b _ rfl), n2.2 c⟩
        · rintro ⟨⟨q', hq, e, hp⟩, b, c⟩
          by_cases hk : cmp q.key p.f0 < 0
          · obtain ⟨n1, n2⟩ := hfar r p hk
            exact Or.inr ⟨n1.1 ⟨q', hq, e, hp⟩, fun k hk2 => by cases hk2; exact hk, n2.1 c⟩
          · left
            have h1 := hall q' hq p hp
            have h2 : p.f0 = q.key := cmp_eq h1 hk
            have h3 := c q List.mem_cons_self ⟨p0, by rw [hle]; exact List.mem_cons_self, by rw [h2, hke]⟩
            have h4 := head_min h.heap hq
            obtain ⟨h0', hs'⟩ := h.each q' hq
            have h5 := key_least h0' hs' hp
            have h6 : ¬ cmp q'.key q.key < 0 := fun hh => by rw [(lt_iff _ _).2 (Or.inl hh)] at h4; cases h4
            rw [h2] at h5
            have h7 : q'.key = q.key := cmp_eq h6 h5
            have h8 : q'.x.row = q.x.row := by
              by_cases h9 : q'.x.row < q.x.row
              · rw [(lt_iff _ _).2 (Or.inr ⟨h7, h9⟩)] at h4; cases h4
              · omega
            have h9 : q' = q := by
              rcases List.mem_cons.1 hq with e | hq'
              · exact e
              · exact absurd h8.symm ((List.pairwise_cons.1 h.apart).1 q' hq')
            subst h9
            rw [hle] at hp
            rcases List.mem_cons.1 hp with e2 | hp
            · rw [e2, ← e]
            · have := hr p hp
              rw [h2, ← hke, cmp_self] at this
              omega
end Go.Proofs.Ytcdgenoakpmlbaa.Mix
