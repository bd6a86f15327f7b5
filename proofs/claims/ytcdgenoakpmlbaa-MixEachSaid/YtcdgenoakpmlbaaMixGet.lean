/- What the document's Get and Unlike come to; the law of Unlike. -/
import Derived.Test.YtcdgenoakpmlbaaMixTold
import Derived.Test.YtcdgenoakpmlbaaU1
namespace Go.Proofs.Ytcdgenoakpmlbaa.Mix
open Go.RowKit Go.Proofs.YtcdgenoakpmlbaaW.PrintWords Go.Proofs.YtcdgenoakpmlbaaW.PrintLast Go.Proofs.YtcdgenoakpmlbaaW.PrintMore
open Go.Proofs.Ytcdgenoakpmlbaa Go.Proofs.Ytcdgenoakpmlbaa.Vals Go.Proofs.Ytcdgenoakpmlbaa.Q Go.Proofs.Ytcdgenoakpmlbaa.U
set_option linter.unusedVariables false
set_option linter.unusedSimpArgs false

def getB : List S32 → ByteArray → ByteArray × Bool
  | [], _ => (⟨#[]⟩, false)
  | p :: r, key => if isK key p = true then (p.f1, true) else getB r key
theorem get_ev (l : List S32) (key : ByteArray) (hl : l.length ≤ 140737488355328) : Ev (fun k => sluicegateref11_Get.f k l key) (getB l key) := by
  have main : ∀ (d i : Nat), l.length - i = d → i ≤ l.length → Ev (fun k => sluicegateref11_Get.l0 k l key (i : Int)) (getB (l.drop i) key) := by
    intro d
    induction d with
    | zero =>
      intro i hd hi
      refine Ev.step (f := fun k => some ((⟨#[]⟩ : ByteArray), false)) (fun k => by simp only [sluicegateref11_Get.l0]; rw [if_neg (by omega)]) ?_
      rw [List.drop_eq_nil_of_le (by omega)]
      exact Ev.now _
    | succ d ih =>
      intro i hd hi
      have hi2 : i < l.length := by omega
      have ih1 := ih (i + 1) (by omega) (by omega)
      rw [List.drop_eq_getElem_cons hi2]
      simp only [getB]
      by_cases hk : isK key l[i] = true
      · have e : (l[i]).f0.toList = key.toList := beq_iff_eq.1 hk
        rw [if_pos hk]
        exact Ev.step (f := fun k => some ((l[i]).f1, true)) (fun k => by
          simp only [sluicegateref11_Get.l0]; rw [if_pos (by omega), if_pos (by omega), rd_is hi2, if_pos e]) (Ev.now _)
      · have e : ¬ (l[i]).f0.toList = key.toList := fun h => hk (beq_iff_eq.2 h)
        rw [if_neg hk]
        refine Ev.step (f := fun k => sluicegateref11_Get.l0 k l key (wrap64 ((i : Int) + 1))) (fun k => by
          simp only [sluicegateref11_Get.l0]; rw [if_pos (by omega), if_pos (by omega), rd_is hi2, if_neg e]) ?_
        rw [w64n hi2 hl]
        exact ih1
  exact main _ 0 rfl (by omega)
theorem getB_true {l : List S32} {key v : ByteArray} (hs : Sorted l) : getB l key = (v, true) ↔ (⟨key, v⟩ : S32) ∈ l := by
  induction l with
  | nil => simp [getB]
  | cons p r ih =>
    obtain ⟨h1, h2⟩ := List.pairwise_cons.1 hs
    simp only [getB]
    by_cases hk : isK key p = true
    · rw [if_pos hk]
      have e := isK_iff.1 hk
      constructor
      · intro h
        injection h with h _
        obtain ⟨f0, f1⟩ := p
        simp only at e h
        rw [← e, ← h]
        exact List.mem_cons_self
      · intro h
        rcases List.mem_cons.1 h with h | h
        · rw [← h]
        · have := h1 _ h
          rw [e, cmp_self] at this
          omega
    · rw [if_neg hk, ih h2]
      constructor
      · exact fun h => List.mem_cons_of_mem _ h
      · intro h
        rcases List.mem_cons.1 h with h | h
        · exact absurd (isK_iff.2 (by rw [← h])) hk
        · exact h
theorem getB_snd {l : List S32} {key : ByteArray} : (getB l key).2 = true ↔ ∃ p ∈ l, p.f0 = key := by
  induction l with
  | nil => simp [getB]
  | cons p r ih =>
    simp only [getB]
    by_cases hk : isK key p = true
    · rw [if_pos hk]
      exact ⟨fun _ => ⟨p, List.mem_cons_self, isK_iff.1 hk⟩, fun _ => rfl⟩
    · rw [if_neg hk, ih]
      constructor
      · rintro ⟨q, hq, e⟩
        exact ⟨q, List.mem_cons_of_mem _ hq, e⟩
      · rintro ⟨q, hq, e⟩
        rcases List.mem_cons.1 hq with rfl | hq
        · exact absurd (isK_iff.2 e) hk
        · exact ⟨q, hq, e⟩
/-- Whether a list has not a pair. -/
def lacksB (b : List S32) (p : S32) : Bool := !((getB b p.f0).2 && (getB b p.f0).1.toList == p.f1.toList)
def unlikeB (a b : List S32) : List S32 := a.filter (lacksB b)
theorem lacksB_iff {b : List S32} {p : S32} (hs : Sorted b) : lacksB b p = true ↔ p ∉ b := by
  unfold lacksB
  rw [Bool.not_eq_true', ← Bool.not_eq_true, Bool.and_eq_true, beq_iff_eq]
  refine not_congr ?_
  have h1 := getB_true (l := b) (key := p.f0) (v := p.f1) hs
  constructor
  · rintro ⟨e1, e2⟩
    refine h1.1 ?_
    have := toList_inj e2
    generalize getB b p.f0 = x at e1 this
    obtain ⟨x1, x2⟩ := x
    simp only at e1 this
    rw [e1, this]
  · intro h
    have := h1.2 h
    rw [this]
    exact ⟨rfl, rfl⟩
theorem unlike_ev (a b : List S32) (ha : a.length ≤ 1000000) (hb : b.length ≤ 1000000) : Ev (fun k => sluicegateref24_Unlike.f k a b) (unlikeB a b) := by
  have main : ∀ (d i : Nat), a.length - i = d → i ≤ a.length → Ev (fun k => sluicegateref24_Unlike.l0 k a b ((a.take i).filter (lacksB b)) (i : Int)) (unlikeB a b) := by
    intro d
    induction d with
    | zero =>
      intro i hd hi
      refine Ev.step (f := fun k => some ((a.take i).filter (lacksB b))) (fun k => by simp only [sluicegateref24_Unlike.l0]; rw [if_neg (by omega)]) ?_
      rw [List.take_of_length_le (by omega)]
      exact Ev.now _
    | succ d ih =>
      intro i hd hi
      have hi2 : i < a.length := by omega
      have ih1 := ih (i + 1) (by omega) (by omega)
      rw [List.take_succ_eq_append_getElem hi2, List.filter_append] at ih1
      have hlen : ((a.take i).filter (lacksB b)).length < 4398046511104 := by
        have := List.length_filter_le (lacksB b) (a.take i)
        rw [List.length_take] at this
        omega
      refine Ev.step (f := fun k => (sluicegateref11_Get.f k b (a[i]).f0).bind fun bt131 => (if bt131.2 = true then (if bt131.1.toList = (a[i]).f1.toList then (sluicegateref24_Unlike.l0 k a b ((a.take i).filter (lacksB b)) (wrap64 ((i : Int) + 1))) else (sluicegateref24_Unlike.l0 k a b (((a.take i).filter (lacksB b)) ++ [a[i]]) (wrap64 ((i : Int) + 1)))) else (sluicegateref24_Unlike.l0 k a b (((a.take i).filter (lacksB b)) ++ [a[i]]) (wrap64 ((i : Int) + 1))))) (fun k => by
        simp only [sluicegateref24_Unlike.l0]; rw [if_pos (by omega), if_pos (by omega), rd_is hi2]; simp only [if_pos hlen]) ?_
      refine Ev.bind (get_ev b (a[i]).f0 (by omega)) ?_
      rw [w64n (n := a.length) hi2 (by omega)]
      by_cases hk : lacksB b a[i] = true
      · have e2 : [a[i]].filter (lacksB b) = [a[i]] := by simp [hk]
        rw [e2] at ih1
        have hk2 : ¬ ((getB b (a[i]).f0).2 = true ∧ (getB b (a[i]).f0).1.toList = (a[i]).f1.toList) := fun h => by
          unfold lacksB at hk
          rw [h.1, h.2] at hk
          simp at hk
        by_cases h1 : (getB b (a[i]).f0).2 = true
        · simp only [if_pos h1, if_neg (fun h => hk2 ⟨h1, h⟩)]
          exact ih1
        · simp only [if_neg h1]
          exact ih1
      · have e2 : [a[i]].filter (lacksB b) = [] := by simp [hk]
        rw [e2, List.append_nil] at ih1
        have hk2 : (getB b (a[i]).f0).2 = true ∧ (getB b (a[i]).f0).1.toList = (a[i]).f1.toList := by
          unfold lacksB at hk
          simpa using hk
        simp only [if_pos hk2.1, if_pos hk2.2]
        exact ih1
  exact main _ 0 rfl (by omega)
def isP (q p : S32) : Bool := q.f0.toList == p.f0.toList && q.f1.toList == p.f1.toList
theorem isP_iff {q p : S32} : isP q p = true ↔ q = p := by
  unfold isP
  rw [Bool.and_eq_true, beq_iff_eq, beq_iff_eq]
  constructor
  · rintro ⟨h1, h2⟩
    obtain ⟨a, b⟩ := q
    obtain ⟨c, d⟩ := p
    rw [show a = c from toList_inj h1, show b = d from toList_inj h2]
  · rintro rfl
    exact ⟨rfl, rfl⟩
def headB : List S32 → S32 → Bool
  | [], _ => false
  | q :: _, p => isP q p
/-- What Unlike makes of two lists. -/
def unlikeL : List S32 → List S32 → List S32
  | [], _ => []
  | p :: r, b => if headB (b.dropWhile (before p.f0)) p = true then unlikeL r (b.dropWhile (before p.f0)) else p :: unlikeL r (b.dropWhile (before p.f0))
theorem dropWhile_sorted {key : ByteArray} {b : List S32} (hs : Sorted b) : Sorted (b.dropWhile (before key)) := List.Pairwise.sublist (List.dropWhile_sublist _) hs
theorem mem_dropWhile {key : ByteArray} {p : S32} : ∀ {b : List S32}, Sorted b → ¬ cmp p.f0 key < 0 → (p ∈ b.dropWhile (before key) ↔ p ∈ b)
  | [], _, _ => by simp
  | q :: r, hs, hp => by
    obtain ⟨h1, h2⟩ := List.pairwise_cons.1 hs
    rw [List.dropWhile_cons]
    by_cases hb : before key q = true
    · rw [if_pos hb, mem_dropWhile h2 hp, List.mem_cons]
      constructor
      · exact Or.inr
      · rintro (rfl | h)
        · exact absurd (of_decide_eq_true hb) hp
        · exact h
    · rw [if_neg hb]
theorem unlikeL_is : ∀ (a b : List S32), Sorted a → Sorted b → unlikeL a b = unlikeB a b
  | [], b, _, _ => rfl
  | p :: r, b, ha, hb => by
    obtain ⟨h1, h2⟩ := List.pairwise_cons.1 ha
    have hd := dropWhile_sorted (key := p.f0) hb
    have ih := unlikeL_is r (b.dropWhile (before p.f0)) h2 hd
    have hrest : unlikeB r (b.dropWhile (before p.f0)) = unlikeB r b := by
      unfold unlikeB
      refine List.filter_congr (fun q hq => ?_)
      rw [Bool.eq_iff_iff, lacksB_iff hd, lacksB_iff hb]
      refine not_congr (mem_dropWhile hb ?_)
      have := h1 q hq
      have h3 := cmp_flip p.f0 q.f0
      omega
    have hp : ¬ cmp p.f0 p.f0 < 0 := by rw [cmp_self]; omega
    have hhead : headB (b.dropWhile (before p.f0)) p = true ↔ p ∈ b := by
      rw [← mem_dropWhile hb hp]
      have hall : ∀ q ∈ b.dropWhile (before p.f0), ¬ cmp q.f0 p.f0 < 0 := by
        intro q hq
        have : ∀ {b : List S32}, Sorted b → ∀ q ∈ b.dropWhile (before p.f0), ¬ cmp q.f0 p.f0 < 0 := by
          intro b
          induction b with
          | nil => intro _ q hq; simp at hq
          | cons c s ih2 =>
            intro hs q hq
            obtain ⟨g1, g2⟩ := List.pairwise_cons.1 hs
            rw [List.dropWhile_cons] at hq
            by_cases hc : before p.f0 c = true
            · rw [if_pos hc] at hq
              exact ih2 g2 q hq
            · rw [if_neg hc] at hq
              have g3 : ¬ cmp c.f0 p.f0 < 0 := fun h => hc (decide_eq_true h)
              rcases List.mem_cons.1 hq with rfl | hq
              · exact g3
              · intro h
                have := cmp_trans (g1 q hq) h
                exact g3 this
        exact this hb q hq
      generalize b.dropWhile (before p.f0) = c at hd hall
      cases c with
      | nil => simp [headB]
      | cons q s =>
        obtain ⟨g1, g2⟩ := List.pairwise_cons.1 hd
        rw [headB, isP_iff]
        constructor
        · intro h
          rw [h]
          exact List.mem_cons_self
        · intro h
          rcases List.mem_cons.1 h with h | h
          · rw [h]
          · exact absurd (g1 p h) (hall q List.mem_cons_self)
    unfold unlikeL
    rw [ih, hrest]
    unfold unlikeB
    rw [List.filter_cons]
    by_cases hm : p ∈ b
    · rw [if_pos (hhead.2 hm), if_neg (fun h => (lacksB_iff hb).1 h hm)]
    · rw [if_neg (fun h => hm (hhead.1 h)), if_pos ((lacksB_iff hb).2 hm)]
theorem unlike_self {a : List S32} (ha : Sorted a) : unlikeB a a = [] := by
  unfold unlikeB
  rw [List.filter_eq_nil_iff]
  exact fun p hp h => (lacksB_iff ha).1 h hp
theorem sorted_key {a : List S32} (hs : Sorted a) {p q : S32} (hp : p ∈ a) (hq : q ∈ a) (e : p.f0 = q.f0) : p = q := by
  induction a with
  | nil => simp at hp
  | cons c s ih =>
    obtain ⟨g1, g2⟩ := List.pairwise_cons.1 hs
    rcases List.mem_cons.1 hp with rfl | hp
    · rcases List.mem_cons.1 hq with rfl | hq
      · rfl
      · have := g1 q hq; rw [e, cmp_self] at this; omega
    · rcases List.mem_cons.1 hq with hq | hq
      · have := g1 p hp; rw [e, hq, cmp_self] at this; omega
      · exact ih g2 hp hq
theorem unlike_merge {a b : List S32} (ha : Sorted a) (hb : Sorted b) : mergeB [unlikeB a b, b] = mergeB [a, b] := by
  have hu : Sorted (unlikeB a b) := List.Pairwise.filter _ ha
  have e0 : Sorted ([] : List S32) := List.Pairwise.nil
  have two : ∀ c : List S32, Sorted c → Sorted (mergeB [c, b]) ∧ ∀ p, p ∈ mergeB [c, b] ↔ p ∈ c ∨ (p ∈ b ∧ ∀ p' ∈ c, p'.f0 ≠ p.f0) := fun c hc => by
    obtain ⟨b1, b2⟩ := overB_spec b [] hb e0
    obtain ⟨c1, c2⟩ := overB_spec c (overB [] b) hc b1
    refine ⟨c1, fun p => ?_⟩
    rw [show mergeB [c, b] = overB (overB [] b) c from rfl, c2, b2]
    simp
  obtain ⟨u1, u2⟩ := two _ hu
  obtain ⟨a1, a2⟩ := two _ ha
  have hm : ∀ p, p ∈ unlikeB a b ↔ p ∈ a ∧ p ∉ b := fun p => by
    unfold unlikeB
    rw [List.mem_filter, lacksB_iff hb]
  refine sorted_ext u1 a1 (fun p => ?_)
  rw [u2, a2, hm]
  constructor
  · rintro (h | ⟨h, h2⟩)
    · exact Or.inl h.1
    · by_cases hk : ∃ p' ∈ a, p'.f0 = p.f0
      · obtain ⟨p', hp', e⟩ := hk
        by_cases hb' : p' ∈ b
        · rw [sorted_key hb hb' h e] at hp'
          exact Or.inl hp'
        · exact absurd e (h2 p' ((hm p').2 ⟨hp', hb'⟩))
      · exact Or.inr ⟨h, fun p' hp' e => hk ⟨p', hp', e⟩⟩
  · rintro (h | ⟨h, h2⟩)
    · by_cases hb' : p ∈ b
      · refine Or.inr ⟨hb', fun p' hp' e => ?_⟩
        obtain ⟨g1, g2⟩ := (hm p').1 hp'
        rw [sorted_key ha g1 h e] at g2
        exact g2 hb'
      · exact Or.inl ⟨h, hb'⟩
    · exact Or.inr ⟨h, fun p' hp' => h2 p' ((hm p').1 hp').1⟩
end Go.Proofs.Ytcdgenoakpmlbaa.Mix
