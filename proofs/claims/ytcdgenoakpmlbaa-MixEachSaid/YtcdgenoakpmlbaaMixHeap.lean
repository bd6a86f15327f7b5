/- The heap's order and what it holds: no program. -/
import Derived.Test.YtcdgenoakpmlbaaMix8
import Derived.Test.YtcdgenoakpmlbaaMixOrd
namespace Go.Proofs.Ytcdgenoakpmlbaa.Mix
open Go.RowKit Go.Proofs.YtcdgenoakpmlbaaW.PrintWords Go.Proofs.YtcdgenoakpmlbaaW.PrintLast Go.Proofs.YtcdgenoakpmlbaaW.PrintMore
open Go.Proofs.Ytcdgenoakpmlbaa Go.Proofs.Ytcdgenoakpmlbaa.Vals Go.Proofs.Ytcdgenoakpmlbaa.Q
set_option linter.unusedVariables false
set_option linter.unusedSimpArgs false

theorem le_of_lt {a b : Qu} (h : lt a b = true) : lt b a = false := by
  cases h2 : lt b a
  · rfl
  · have := lt_trans h h2
    rw [lt_irrefl] at this
    cases this
theorem lt_same {a b c : Qu} (h : a.key = b.key ∧ a.x.row = b.x.row) : lt c a = lt c b := by
  unfold lt
  rw [h.1, h.2]
theorem le_trans' {a b c : Qu} (h1 : lt b a = false) (h2 : lt c b = false) : lt c a = false := by
  cases h : lt c a
  · rfl
  · cases hab : lt a b
    · have := lt_same (c := c) (lt_total hab h1)
      rw [h, h2] at this
      cases this
    · have := lt_trans h hab
      rw [h2] at this
      cases this
theorem swp_perm (qs : List Qu) (i k : Nat) : (swp qs i k).Perm qs := by
  unfold swp
  split
  · rename_i h
    exact List.set_set_perm h.1 h.2
  · exact List.Perm.refl _
theorem g_swp {qs : List Qu} {i k : Nat} (hi : i < qs.length) (hk : k < qs.length) (j : Nat) : g (swp qs i k) j = if j = k then g qs i else if j = i then g qs k else g qs j := by
  unfold g swp
  rw [dif_pos ⟨hi, hk⟩]
  simp only [List.getD_eq_getElem?_getD]
  by_cases h1 : j = k
  · subst h1
    rw [if_pos rfl, List.getElem?_set_self (by rw [List.length_set]; exact hk), List.getElem?_eq_getElem hi]
  · rw [if_neg h1, List.getElem?_set_ne (fun h => h1 h.symm)]
    by_cases h2 : j = i
    · subst h2
      rw [if_pos rfl, List.getElem?_set_self hi, List.getElem?_eq_getElem hk]
    · rw [if_neg h2, List.getElem?_set_ne (fun h => h2 h.symm)]
theorem upL_perm : ∀ (f : Nat) (qs : List Qu) (j : Nat), (upL f qs j).Perm qs
  | 0, qs, j => List.Perm.refl _
  | f + 1, qs, j => by
    unfold upL
    split
    · split
      · exact (upL_perm f _ _).trans (swp_perm _ _ _)
      · exact List.Perm.refl _
    · exact List.Perm.refl _
theorem downL_perm : ∀ (f : Nat) (qs : List Qu) (i n : Nat), (downL f qs i n).1.Perm qs
  | 0, qs, i, n => List.Perm.refl _
  | f + 1, qs, i, n => by
    unfold downL
    split
    · exact (downL_perm f _ _ _).trans (swp_perm _ _ _)
    · exact List.Perm.refl _
/-- The heap's order, of the first n. -/
def HeapN (qs : List Qu) (n : Nat) : Prop := ∀ k, 0 < k → k < n → lt (g qs k) (g qs ((k - 1) / 2)) = false
def Heap (qs : List Qu) : Prop := HeapN qs qs.length
def Hup (qs : List Qu) (j : Nat) : Prop := (∀ i, 0 < i → i < qs.length → i ≠ j → lt (g qs i) (g qs ((i - 1) / 2)) = false) ∧ (∀ i, i < qs.length → (i - 1) / 2 = j → 0 < j → lt (g qs i) (g qs ((j - 1) / 2)) = false)
theorem upL_heap : ∀ (f : Nat) (qs : List Qu) (j : Nat), j < f → j < qs.length → Hup qs j → Heap (upL f qs j)
  | 0, qs, j, h, _, _ => absurd h (Nat.not_lt_zero _)
  | f + 1, qs, j, hf, hj, ⟨h1, h2⟩ => by
    unfold upL
    by_cases hp : (j - 1) / 2 ≠ j
    · rw [dif_pos ⟨hp, hj⟩]
      have hlt : (j - 1) / 2 < qs.length := by omega
      rw [← g_is hj, ← g_is hlt]
      obtain ⟨p, hpe⟩ : ∃ p, (j - 1) / 2 = p := ⟨_, rfl⟩
      rw [hpe] at hp hlt ⊢
      cases hl : lt (g qs j) (g qs p)
      · simp only [Bool.false_eq_true, if_false]
        intro k h0 hk
        by_cases e : k = j
        · rw [e, hpe]; exact hl
        · exact h1 k h0 hk e
      · simp only [if_true]
        refine upL_heap f _ p (by omega) (by rw [swp_length]; exact hlt) ⟨fun k h0 hk hkp => ?_, fun k hk hkp h0 => ?_⟩
        · rw [swp_length] at hk
          have G := g_swp hlt hj
          by_cases e1 : k = j
          · subst e1
            rw [G, G, if_pos rfl, hpe, if_neg hp, if_pos rfl]
            exact le_of_lt hl
          · rw [G k, if_neg e1, if_neg hkp]
            by_cases e2 : (k - 1) / 2 = j
            · rw [G, if_pos e2, ← hpe]
              exact h2 k hk e2 (by omega)
            · by_cases e3 : (k - 1) / 2 = p
              · rw [G, if_neg e2, if_pos e3]
                have h5 := h1 k h0 hk e1
                rw [e3] at h5
                exact le_trans' (le_of_lt hl) h5
              · rw [G, if_neg e2, if_neg e3]
                exact h1 k h0 hk e1
        · rw [swp_length] at hk
          have G := g_swp hlt hj
          have h6 := h1 p h0 hlt hp
          rw [G ((p - 1) / 2), if_neg (by omega), if_neg (by omega)]
          by_cases e1 : k = j
          · rw [G, if_pos e1]
            exact h6
          · rw [G, if_neg e1, if_neg (by omega)]
            have h5 := h1 k (by omega) hk e1
            rw [hkp] at h5
            exact le_trans' h6 h5
    · rw [dif_neg (fun g => hp g.1)]
      intro k h0 hk
      exact h1 k h0 hk (by omega)
theorem pickL_is {qs : List Qu} {i n : Nat} (h : 2 * i + 1 < n) : pickL qs i n < n ∧ (pickL qs i n - 1) / 2 = i ∧ i < pickL qs i n ∧ ∀ k, k < n → 0 < k → (k - 1) / 2 = i → lt (g qs k) (g qs (pickL qs i n)) = false := by
  unfold pickL
  split
  · rename_i hc
    refine ⟨by omega, by omega, by omega, fun k hk h0 hp => ?_⟩
    have : k = 2 * i + 1 ∨ k = 2 * i + 2 := by omega
    rcases this with rfl | rfl
    · exact le_of_lt hc.2
    · exact lt_irrefl _
  · rename_i hc
    refine ⟨by omega, by omega, by omega, fun k hk h0 hp => ?_⟩
    have : k = 2 * i + 1 ∨ k = 2 * i + 2 := by omega
    rcases this with rfl | rfl
    · exact lt_irrefl _
    · cases hl : lt (g qs (2 * i + 2)) (g qs (2 * i + 1))
      · rfl
      · exact absurd ⟨hk, hl⟩ hc
def Hdn (qs : List Qu) (i n : Nat) : Prop := (∀ k, 0 < k → k < n → (k - 1) / 2 ≠ i → lt (g qs k) (g qs ((k - 1) / 2)) = false) ∧ (∀ k, 0 < k → k < n → (k - 1) / 2 = i → 0 < i → lt (g qs k) (g qs ((i - 1) / 2)) = false)
theorem downL_heap : ∀ (f : Nat) (qs : List Qu) (i n : Nat), n ≤ i + f → n ≤ qs.length → Hdn qs i n → HeapN (downL f qs i n).1 n
  | 0, qs, i, n, hf, hn, ⟨h1, h2⟩ => fun k h0 hk => h1 k h0 hk (by omega)
  | f + 1, qs, i, n, hf, hn, ⟨h1, h2⟩ => by
    unfold downL
    by_cases hc : 2 * i + 1 < n ∧ lt (g qs (pickL qs i n)) (g qs i) = true
    · rw [if_pos hc]
      obtain ⟨p1, p2, p3, p4⟩ := pickL_is (qs := qs) hc.1
      have hl := hc.2
      obtain ⟨m, hm⟩ : ∃ m, pickL qs i n = m := ⟨_, rfl⟩
      rw [hm] at p1 p2 p3 p4 hl ⊢
      have hi : i < qs.length := by omega
      have hml : m < qs.length := by omega
      have G := g_swp hi hml
      refine downL_heap f _ m n (by omega) (by rw [swp_length]; exact hn) ⟨fun k h0 hk hp => ?_, fun k h0 hk hp hm0 => ?_⟩
      · by_cases e1 : k = m
        · subst e1
          rw [G, G, if_pos rfl, p2, if_neg (by omega), if_pos rfl]
          exact le_of_lt hl
        · by_cases e2 : k = i
          · subst e2
            rw [G k, if_neg e1, if_pos rfl, G, if_neg (by omega), if_neg (by omega)]
            exact h2 m (by omega) p1 p2 h0
          · rw [G k, if_neg e1, if_neg e2]
            by_cases e3 : (k - 1) / 2 = i
            · rw [G, if_neg hp, if_pos e3]
              exact p4 k hk h0 e3
            · rw [G, if_neg hp, if_neg e3]
              exact h1 k h0 hk e3
      · rw [p2, G i, if_neg (by omega), if_pos rfl, G k, if_neg (by omega), if_neg (by omega)]
        have := h1 k h0 hk (by omega)
        rw [hp] at this
        exact this
    · rw [if_neg hc]
      intro k h0 hk
      by_cases e : (k - 1) / 2 = i
      · have hb : 2 * i + 1 < n := by omega
        obtain ⟨p1, p2, p3, p4⟩ := pickL_is (qs := qs) hb
        rw [e]
        refine le_trans' ?_ (p4 k hk h0 e)
        cases hl : lt (g qs (pickL qs i n)) (g qs i)
        · rfl
        · exact absurd ⟨hb, hl⟩ hc
      · exact h1 k h0 hk e
/-- What lies from n on stays. -/
theorem downL_far : ∀ (f : Nat) (qs : List Qu) (i n : Nat), n ≤ qs.length → ∀ k, n ≤ k → g (downL f qs i n).1 k = g qs k
  | 0, qs, i, n, _, k, _ => rfl
  | f + 1, qs, i, n, hn, k, hk => by
    unfold downL
    split
    · rename_i hc
      obtain ⟨p1, p2, p3, p4⟩ := pickL_is (qs := qs) hc.1
      rw [downL_far f _ _ _ (by rw [swp_length]; exact hn) k hk, g_swp (by omega) (by omega), if_neg (by omega), if_neg (by omega)]
    · rfl
theorem g_take {qs : List Qu} {m k : Nat} (h : k < m) : g (qs.take m) k = g qs k := by
  unfold g
  simp only [List.getD_eq_getElem?_getD]
  rw [List.getElem?_take_of_lt h]
theorem g_cons (q : Qu) (t : List Qu) {k : Nat} (h : 0 < k) : g (q :: t) k = g t (k - 1) := by
  obtain ⟨m, rfl⟩ : ∃ m, k = m + 1 := ⟨k - 1, by omega⟩
  rfl
theorem fixL_is (qs : List Qu) : fixL qs 0 = (downL (qs.length + 1) qs 0 qs.length).1 := by
  unfold fixL
  simp only
  split
  · rfl
  · exact upL_stop rfl
theorem fix_heap {q q' : Qu} {t : List Qu} (h : Heap (q :: t)) : Heap (fixL (q' :: t) 0) := by
  have hl := fixL_length (q' :: t) 0
  unfold Heap
  rw [hl, fixL_is]
  refine downL_heap _ _ 0 _ (by omega) (Nat.le_refl _) ⟨fun k h0 hk hp => ?_, fun k h0 hk hp hh => by omega⟩
  have := h k h0 hk
  rw [g_cons _ _ h0, g_cons _ _ (by omega)] at this ⊢
  exact this
theorem fix_perm (qs : List Qu) : (fixL qs 0).Perm qs := by
  rw [fixL_is]
  exact downL_perm _ _ _ _
theorem pop_both {q : Qu} {t : List Qu} (h : Heap (q :: t)) : Heap (popL (q :: t)) ∧ (popL (q :: t)).Perm t := by
  unfold popL
  obtain ⟨n, hn⟩ : ∃ n, t.length = n := ⟨_, rfl⟩
  have hl : (q :: t).length - 1 = n := by simp [hn]
  rw [hl]
  have hs : (swp (q :: t) 0 n).length = n + 1 := by rw [swp_length]; simp [hn]
  have hlen : (downL (n + 1) (swp (q :: t) 0 n) 0 n).1.length = n + 1 := by rw [downL_length, hs]
  have hsw := g_swp (qs := q :: t) (i := 0) (k := n) (by simp) (by simp; omega)
  have hh := downL_heap (n + 1) (swp (q :: t) 0 n) 0 n (by omega) (by omega) ⟨fun k h0 hk hp => by
      rw [hsw k, if_neg (by omega), if_neg (by omega), hsw, if_neg (by omega), if_neg (by omega)]
      exact h k h0 (by simp; omega), fun k h0 hk hp hh => by omega⟩
  have hfar := downL_far (n + 1) (swp (q :: t) 0 n) 0 n (by omega) n (Nat.le_refl _)
  rw [hsw n, if_pos rfl] at hfar
  have hperm : (downL (n + 1) (swp (q :: t) 0 n) 0 n).1.Perm (q :: t) := (downL_perm _ _ _ _).trans (swp_perm _ _ _)
  generalize (downL (n + 1) (swp (q :: t) 0 n) 0 n).1 = r at hlen hh hfar hperm
  have hr : r = r.take n ++ [q] := by
    have h1 : r.drop n = [q] := by
      rw [List.drop_eq_getElem_cons (by omega), List.drop_eq_nil_of_le (by omega)]
      rw [← g_is, hfar]
      rfl
    rw [← h1, List.take_append_drop]
  refine ⟨fun k h0 hk => ?_, ?_⟩
  · have hk2 : k < n := by rw [List.length_take] at hk; omega
    rw [g_take hk2, g_take (by omega)]
    exact hh k h0 hk2
  · have h1 : (q :: r.take n).Perm (q :: t) := by
      refine List.Perm.trans ?_ hperm
      conv => rhs; rw [hr]
      exact (List.perm_append_singleton q _).symm
    exact h1.cons_inv
end Go.Proofs.Ytcdgenoakpmlbaa.Mix
