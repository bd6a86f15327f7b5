/- A region that draws its order with ONE store (into memory that the region made): the operations ahead of the store are shown once each; those for which the store does not wait (free ones) may come after it; the rest is a plain list. -/
import Derived.StillTail
import Derived.Test.YtfpdapdnmkadeaaRegT
namespace Go.Proofs.Ytfpdapdnmkadeaa.Reg
open Go.RowKit
set_option linter.unusedVariables false

section
variable {P : Program} {ops : Array Oper} {Q : Exit → Act → World → Prop}

def setf (l : Nat → Bool) (i : Nat) : Nat → Bool := fun j => if j = i then true else l j

/-- A region by an invariant of what is listed. -/
theorem any_inv (Inv : (Nat → Bool) → Act → World → Prop)
    (hstep : ∀ (i : Nat) (o : Oper), ops[i]? = some o → ∀ l a w, l i = false → (∀ j, (o.after.toList.any fun e => e.on == j && Region.binds .any e) = true → l j = true) → Inv l a w → wpOp P ops Q i (Inv (setf l i)) a w)
    (hend : ∀ a w, Inv (fun j => decide (j < ops.size)) a w → Q .normal a w)
    (hearly : ∀ (i : Nat) (o : Oper), ops[i]? = some o → (o.after.toList.all fun e => !Region.binds .any e || decide (e.on < i)) = true) :
    ∀ (fuel : Nat) (listed : Array Bool) (a : Act) (w : World), listed.size = ops.size → (listed.toList.filter (fun b => !b)).length ≤ fuel →
      Inv (fun j => listed.getD j false) a w → wpAny P .any ops Q fuel listed a w := by
  have hready : ∀ (listed : Array Bool), listed.size = ops.size → Region.ready .any ops listed = [] → ∀ j, j < ops.size → listed.getD j false = true := by
    intro listed hsz hr j
    induction j using Nat.strongRecOn with
    | ind j ih =>
      intro hj
      cases hlj : listed.getD j false with
      | true => rfl
      | false =>
        exfalso
        have hoj : ops[j]? = some ops[j] := Array.getElem?_eq_getElem hj
        have : j ∈ Region.ready .any ops listed := by
          rw [mem_ready]
          refine ⟨?_, ops[j], hoj, fun e he hb => ?_⟩
          · simpa [Array.getD_eq_getD_getElem?, hsz, hj] using hlj
          · have h := List.all_eq_true.1 (hearly j _ hoj) e (by simpa using he)
            rw [hb] at h
            have h2 : e.on < j := by simpa using h
            exact ih e.on h2 (by omega)
        rw [hr] at this
        cases this
  have hall : ∀ {listed : Array Bool} {a : Act} {w : World}, listed.size = ops.size → Region.ready .any ops listed = [] → Inv (fun j => listed.getD j false) a w → Q .normal a w := by
    intro listed a w hsz hr hs
    have e : (fun j => listed.getD j false) = (fun j => decide (j < ops.size)) := by
      funext j
      by_cases hj : j < ops.size
      · rw [hready listed hsz hr j hj]; simp [hj]
      · simp [Array.getD_eq_getD_getElem?, hsz, hj]
    rw [e] at hs
    exact hend a w hs
  intro fuel
  induction fuel with
  | zero =>
    intro listed a w hsz hf hs
    have hr : Region.ready .any ops listed = [] := by
      refine List.eq_nil_iff_forall_not_mem.2 (fun i hi => ?_)
      obtain ⟨h1, oi, hoi, _⟩ := mem_ready.1 hi
      have hil : i < listed.size := by rw [hsz]; exact (Array.getElem?_eq_some_iff.1 hoi).1
      have h2 : listed[i] = false := by simpa [Array.getD_eq_getD_getElem?, hil] using h1
      have hm : listed[i] ∈ listed.toList.filter (fun b => !b) := List.mem_filter.2 ⟨by simp, by simp [h2]⟩
      have hz : listed.toList.filter (fun b => !b) = [] := List.eq_nil_of_length_eq_zero (by omega)
      rw [hz] at hm
      cases hm
    exact ⟨hr, hall hsz hr hs⟩
  | succ fuel ih =>
    intro listed a w hsz hf hs
    refine ⟨fun hr => hall hsz hr hs, fun i hi => ?_⟩
    obtain ⟨h1, oi, hoi, hedges⟩ := mem_ready.1 hi
    have hil : i < listed.size := by rw [hsz]; exact (Array.getElem?_eq_some_iff.1 hoi).1
    have h2 : listed.getD i false = false := by simpa [Array.getD_eq_getD_getElem?, hil] using h1
    refine wpOp_mono (fun a' w' h => ?_) (hstep i oi hoi _ a w h2 (fun j hj => ?_) hs)
    · refine ih _ _ _ (by simpa using hsz) ?_ ?_
      · have hcount : ∀ (l : List Bool) (i : Nat), l[i]? = some false → ((l.set i true).filter (fun b => !b)).length + 1 = (l.filter (fun b => !b)).length := by
          intro l
          induction l with
          | nil => intro i h; simp at h
          | cons x t iht =>
            intro i h
            cases i with
            | zero => simp at h; subst h; simp
            | succ i =>
              simp at h
              have := iht i h
              cases x <;> simp <;> simpa using this
        have := hcount listed.toList i (by
          have : listed[i] = false := by simpa [Array.getD_eq_getD_getElem?, hil] using h1
          simp [hil, this])
        simp only [Array.toList_setIfInBounds]
        omega
      · have e : setf (fun j => listed.getD j false) i = (fun j => (listed.setIfInBounds i true).getD j false) := by
          funext j
          unfold setf
          by_cases hji : j = i
          · subst hji; simp [Array.getD_eq_getD_getElem?, hil]
          · simp [hji, Array.getD_eq_getD_getElem?, Array.getElem?_setIfInBounds_ne (Ne.symm hji)]
        rw [e] at h
        exact h
    · obtain ⟨e, he, heq⟩ := List.any_eq_true.1 hj
      rw [Bool.and_eq_true, beq_iff_eq] at heq
      rw [← heq.1]
      exact hedges e (by simpa using he) heq.2

/-- o waits for j. -/
def waits (o : Oper) (j : Nat) : Bool := o.after.toList.any fun e => e.on == j && Region.binds .any e

/-- What is listed has all behind it that it waits for. -/
def Closed (ops : Array Oper) (l : Nat → Bool) : Prop := ∀ (i : Nat) (o : Oper), ops[i]? = some o → l i = true → ∀ j, waits o j = true → l j = true
theorem closed_setf {l : Nat → Bool} {i : Nat} {o : Oper} (h : Closed ops l) (ho : ops[i]? = some o) (hed : ∀ j, waits o j = true → l j = true) : Closed ops (setf l i) := by
  intro k o2 hk hl j hj
  unfold setf
  by_cases e : j = i
  · rw [if_pos e]
  · rw [if_neg e]
    unfold setf at hl
    by_cases ek : k = i
    · subst ek
      rw [ho] at hk
      cases hk
      exact hed j hj
    · rw [if_neg ek] at hl
      exact h k o2 hk hl j hj
theorem any_inv_closed (Inv : (Nat → Bool) → Act → World → Prop)
    (hstep : ∀ (i : Nat) (o : Oper), ops[i]? = some o → ∀ l a w, l i = false → (∀ j, waits o j = true → l j = true) → Closed ops l → Inv l a w → wpOp P ops Q i (Inv (setf l i)) a w)
    (hend : ∀ a w, Inv (fun j => decide (j < ops.size)) a w → Q .normal a w)
    (hearly : ∀ (i : Nat) (o : Oper), ops[i]? = some o → (o.after.toList.all fun e => !Region.binds .any e || decide (e.on < i)) = true)
    (fuel : Nat) (a : Act) (w : World) (hf : ops.size ≤ fuel) (h : Inv (fun _ => false) a w) : wpAny P .any ops Q fuel (Array.replicate ops.size false) a w := by
  have e : (fun j => (Array.replicate ops.size false).getD j false) = (fun _ => false) := by funext j; exact getD_replicate_false _ _
  refine any_inv (fun l a w => Closed ops l ∧ Inv l a w) ?_ (fun a w h => hend a w h.2) hearly fuel _ a w (by simp) (by simpa using hf) ⟨fun i o _ hl => (by rw [e] at hl; cases hl), (by rw [e]; exact h)⟩
  intro i o ho l a w hli hed hinv
  have hed' : ∀ j, waits o j = true → l j = true := hed
  exact wpOp_mono (fun a' w' h' => ⟨closed_setf hinv.1 ho hed', h'⟩) (hstep i o ho l a w hli hed' hinv.1 hinv.2)

/-- What stands at each stage: before the store, after it, in the tail. -/
inductive Stage (P : Program) (ops : Array Oper) (Q : Exit → Act → World → Prop) (R : Nat → Value → World → Prop) (a0 : Act) (w0 : World) (n p q : Nat) (free : Nat → Bool) (W : Value → Value → World → World → Prop) (l : Nat → Bool) (a : Act) (w : World) : Prop
  | ahead (h1 : ∀ j, n ≤ j → l j = false) (h2 : Stands ops R a0 w0 l a w)
  | behind (w1 : World) (h0 : l n = true) (h1 : ∀ j, n < j → l j = false) (h3 : ∀ j, j < n → free j = false → l j = true) (h2 : Stands ops R a0 w0 (fun j => l j && decide (j < n)) a w1) (h4 : W (held ops a p) (held ops a q) w1 w)
  | tail (k : Nat) (hk : n + 2 ≤ k) (h1 : ∀ j, l j = decide (j < k)) (h2 : wpList P ops Q (ops.toList.drop k) a w)

theorem rel_store {R : Nat → Value → World → Prop} {a0 : Act} {w0 : World} (n p q : Nat) (free : Nat → Bool) (W : Value → Value → World → World → Prop) (hn : slotsOk ops a0.tmps.size = true)
    (hm : ∀ j v w w', R j v w → Below w.heap.size w w' → R j v w')
    (hd : ∀ (i : Nat) (o : Oper), ops[i]? = some o → i < n → o.dst = none → ∀ w, R i undef w)
    (hstep : ∀ (i : Nat) (o : Oper), ops[i]? = some o → i < n → ∀ a w, Leans ops R a0 w0 o a w → Does P Q ops R i o a w)
    (hfree : ∀ (i : Nat) (o : Oper), ops[i]? = some o → i < n → free i = true → ∀ a w, Leans ops R a0 w0 o a w → Region.wanted o (yielded ops a.tmps) = true ∧ ∃ v, R i v w ∧ ∀ w2, (execOp a.eval o).run P w2 = .ok (.value v) w2)
    (hstore : ∀ (o : Oper), ops[n]? = some o → ∀ a w, Leans ops R a0 w0 o a w → Region.wanted o (yielded ops a.tmps) = true ∧ o.wp P a w (fun a' w' => a' = a ∧ W (held ops a p) (held ops a q) w w') Q)
    (hend : ∀ a w w', Stands ops R a0 w0 (fun j => decide (j < n)) a w → W (held ops a p) (held ops a q) w w' → wpList P ops Q (ops.toList.drop (n + 1)) a w')
    (hearly : ∀ (i : Nat) (o : Oper), ops[i]? = some o → (o.after.toList.all fun e => !Region.binds .any e || decide (e.on < i)) = true)
    (hlt : n < ops.size) (hp : p < n) (hq : q < n) (hfp : free p = false) (hfq : free q = false)
    (hg2 : ∀ (o : Oper), ops[n]? = some o → ∀ l : Nat → Bool, Closed ops l → (∀ j, waits o j = true → l j = true) → ∀ j, j < n → free j = false → l j = true)
    (hg3 : ∀ (i : Nat) (o : Oper), ops[i]? = some o → n < i → ∀ j, j < i → waits o j = true) :
    ∀ (a : Act) (w : World), Stands ops R a0 w0 (fun _ => false) a w → wpAny P .any ops Q ops.size (Array.replicate ops.size false) a w := by
  intro a w hst
  have hslot : ∀ {i j : Nat} {t : Tmp}, slot ops i = some t → i ≠ j → slot ops j ≠ some t := fun h hne => (slotsOk_lt hn h).2 _ (Ne.symm hne)
  refine any_inv_closed (Stage P ops Q R a0 w0 n p q free W) ?_ ?_ hearly ops.size a w (Nat.le_refl _) ?_
  · intro i o ho l a w hli hed hcl hinv
    have hio : i < ops.size := (Array.getElem?_eq_some_iff.1 ho).1
    cases hinv with
    | ahead h1 h2 =>
      have hlean : Leans ops R a0 w0 o a w := ⟨h2.below, h2.size, fun t ht => (by
        have := h2.other t (fun j _ => ht j)
        simp only [Array.getD_eq_getD_getElem?, this]), fun j hj => h2.has j (hed j hj)⟩
      rcases Nat.lt_trichotomy i n with hin | hin | hin
      · have hdo := hstep i o ho hin a w hlean
        have next : ∀ v w', R i v w' → Below w.heap.size w w' → Stage P ops Q R a0 w0 n p q free W (setf l i) (a.put o.dst v) w' := fun v w' hr hb =>
          .ahead (fun j hj => by unfold setf; rw [if_neg (by omega)]; exact h1 j hj) (stands_step hn hm h2 ho hli hr hb (fun hnone => hd i o ho hin hnone w'))
        unfold wpOp
        rw [ho]
        simp only
        unfold Does at hdo
        by_cases hw : Region.wanted o (yielded ops a.tmps) = true
        · rw [if_pos hw] at hdo ⊢
          exact Or.inl (Oper.wp_mono (fun a' w' ⟨v, e, hr, hb⟩ => by subst e; exact next v w' hr hb) hdo)
        · rw [if_neg hw] at hdo ⊢
          exact next undef w hdo (Below.refl _ _)
      · subst hin
        obtain ⟨hw, hs⟩ := hstore o ho a w hlean
        unfold wpOp
        rw [ho]
        simp only
        rw [if_pos hw]
        refine Or.inl (Oper.wp_mono (fun a' w' ⟨e, hW⟩ => ?_) hs)
        subst e
        refine .behind w (by simp [setf]) (fun j hj => by unfold setf; rw [if_neg (by omega)]; exact h1 j (by omega)) (fun j hj hf => by unfold setf; rw [if_neg (by omega)]; exact hg2 o ho l hcl hed j hj hf) ?_ hW
        have e : (fun j => setf l i j && decide (j < i)) = l := by
          funext j
          unfold setf
          by_cases hji : j < i
          · rw [if_neg (by omega)]; simp [hji]
          · rw [h1 j (by omega)]; simp [hji]
        rw [e]; exact h2
      · exact absurd (hed n (hg3 i o ho hin n hin)) (by rw [h1 n (Nat.le_refl _)]; simp)
    | behind w1 h0 h1 h3 h2 h4 =>
      rcases Nat.lt_trichotomy i n with hin | hin | hin
      · have hfi : free i = true := by
          cases hfi : free i with
          | true => rfl
          | false => rw [h3 i hin hfi] at hli; cases hli
        have hlean : Leans ops R a0 w0 o a w1 := ⟨h2.below, h2.size, fun t ht => (by
          have := h2.other t (fun j _ => ht j)
          simp only [Array.getD_eq_getD_getElem?, this]), fun j hj => h2.has j (by
            have hj' := hed j hj
            obtain ⟨e, he, heq⟩ := List.any_eq_true.1 hj
            rw [Bool.and_eq_true, beq_iff_eq] at heq
            have h := List.all_eq_true.1 (hearly i _ ho) e he
            rw [heq.2] at h
            have h5 : e.on < i := by simpa using h
            rw [heq.1] at h5
            have : j < n := by omega
            simp [hj', this])⟩
        obtain ⟨hw, v, hr, hrun⟩ := hfree i o ho hin hfi a w1 hlean
        unfold wpOp
        rw [ho]
        simp only
        rw [if_pos hw]
        refine Or.inl ?_
        unfold Oper.wp
        rw [hrun w]
        have hst2 := stands_step hn hm h2 ho (by simp [hli]) hr (Below.refl _ _) (fun hnone => hd i o ho hin hnone w1)
        have hheld : ∀ j, free j = false → held ops (a.put o.dst v) j = held ops a j := fun j hfj => by
          have hji : j ≠ i := fun e => by rw [e, hfi] at hfj; cases hfj
          unfold held
          cases hsj : slot ops j with
          | none => rfl
          | some t =>
            simp only
            cases hdo : o.dst with
            | none => rfl
            | some s =>
              refine getD_put_ne (fun e => ?_)
              exact hslot hsj hji (by rw [show slot ops i = o.dst by simp [slot, ho], hdo, e])
        refine .behind w1 (by unfold setf; rw [if_neg (by omega)]; exact h0) (fun j hj => by unfold setf; rw [if_neg (by omega)]; exact h1 j hj) (fun j hj hf => by unfold setf; split; rfl; exact h3 j hj hf) ?_ (by rw [hheld p hfp, hheld q hfq]; exact h4)
        have e : (fun j => setf l i j && decide (j < n)) = (fun j => if j = i then true else (l j && decide (j < n))) := by
          funext j
          unfold setf
          by_cases hji : j = i
          · subst hji; simp [hin]
          · simp [hji]
        rw [e]; exact hst2
      · subst hin; rw [h0] at hli; cases hli
      · have hi2 : i = n + 1 := by
          rcases Nat.lt_or_ge (n + 1) i with h | h
          · exact absurd (hed (n + 1) (hg3 i o ho hin (n + 1) h)) (by rw [h1 (n + 1) (by omega)]; simp)
          · omega
        subst hi2
        have hall : (fun j => l j && decide (j < n)) = (fun j => decide (j < n)) := by
          funext j
          by_cases hj : j < n
          · rw [hed j (hg3 (n + 1) o ho hin j (by omega))]; simp
          · simp [hj]
        rw [hall] at h2
        have := hend a w1 w h2 h4
        have hdr : ops.toList.drop (n + 1) = o :: ops.toList.drop (n + 2) := by
          rw [List.drop_eq_getElem_cons (by simpa using hio)]
          congr 1
          have := (Array.getElem?_eq_some_iff.1 ho).2
          simpa using this
        rw [hdr] at this
        have hw : wpOp P ops Q (n + 1) (wpList P ops Q (ops.toList.drop (n + 2))) a w := by unfold wpOp; simp only [ho]; exact this
        refine wpOp_mono (fun a' w' h => .tail (n + 2) (Nat.le_refl _) (fun j => ?_) h) hw
        unfold setf
        by_cases hj : j = n + 1
        · subst hj; simp
        · rw [if_neg hj]
          by_cases hj2 : j < n + 1
          · rw [hed j (hg3 (n + 1) o ho hin j hj2)]; simp; omega
          · rw [h1 j (by omega)]; simp; omega
    | tail k hk h1 h2 =>
      have hik : ¬ i < k := fun h => by rw [h1 i] at hli; simp [h] at hli
      have hi2 : i = k := by
        rcases Nat.lt_or_ge k i with h | h
        · exact absurd (hed k (hg3 i o ho (by omega) k h)) (by rw [h1 k]; simp)
        · omega
      subst hi2
      have hdr : ops.toList.drop i = o :: ops.toList.drop (i + 1) := by
        rw [List.drop_eq_getElem_cons (by simpa using hio)]
        congr 1
        have := (Array.getElem?_eq_some_iff.1 ho).2
        simpa using this
      rw [hdr] at h2
      have hw : wpOp P ops Q i (wpList P ops Q (ops.toList.drop (i + 1))) a w := by unfold wpOp; simp only [ho]; exact h2
      refine wpOp_mono (fun a' w' h => .tail (i + 1) (by omega) (fun j => ?_) h) hw
      unfold setf
      by_cases hj : j = i
      · subst hj; simp
      · rw [if_neg hj, h1 j]
        by_cases hj2 : j < i
        · simp [hj2]; omega
        · simp [hj2]; omega
  · intro a w hinv
    cases hinv with
    | ahead h1 h2 =>
      have := h1 n (Nat.le_refl _)
      simp [hlt] at this
    | behind w1 h0 h1 h3 h2 h4 =>
      have hsz : ops.size = n + 1 := by
        rcases Nat.lt_or_ge (n + 1) ops.size with h | h
        · have := h1 (n + 1) (by omega)
          simp [h] at this
        · omega
      have hall : (fun j => decide (j < ops.size) && decide (j < n)) = (fun j => decide (j < n)) := by
        funext j
        by_cases hj : j < n
        · simp [hj]; omega
        · simp [hj]
      rw [hall] at h2
      have := hend a w1 w h2 h4
      rw [List.drop_of_length_le (by simp; omega)] at this
      exact this
    | tail k hk h1 h2 =>
      have hks : ops.size ≤ k := by
        rcases Nat.lt_or_ge k ops.size with h | h
        · have := h1 k
          simp [h] at this
        · exact h
      rw [List.drop_of_length_le (by simpa using hks)] at h2
      exact h2
  · exact .ahead (fun j _ => rfl) hst

def g2B (ops : Array Oper) (n : Nat) (Fs : List Nat) : Bool := match ops[n]? with
  | none => false
  | some o => (List.range n).all fun j => Fs.contains j || waits o j || (List.range n).any fun k => decide (j < k) && !Fs.contains k && (match ops[k]? with | none => false | some o2 => waits o2 j)
def g3B (ops : Array Oper) (n : Nat) : Bool := (List.range ops.size).all fun i => match ops[i]? with
  | none => true
  | some o => !decide (n < i) || (List.range i).all fun j => waits o j

theorem g2_listed {n : Nat} {Fs : List Nat} (h2 : g2B ops n Fs = true) {o : Oper} (ho : ops[n]? = some o) {l : Nat → Bool} (hc : Closed ops l) (hed : ∀ j, waits o j = true → l j = true) : ∀ (d j : Nat), j < n → n - j ≤ d → Fs.contains j = false → l j = true := by
  intro d
  induction d with
  | zero => intro j hj hd; omega
  | succ d ih =>
    intro j hj hd hf
    unfold g2B at h2
    rw [ho] at h2
    have h := List.all_eq_true.1 h2 j (List.mem_range.2 hj)
    rw [hf, Bool.false_or, Bool.or_eq_true] at h
    rcases h with h | h
    · exact hed j h
    · obtain ⟨k, hk, h⟩ := List.any_eq_true.1 h
      rw [Bool.and_eq_true, Bool.and_eq_true, decide_eq_true_eq, Bool.not_eq_true'] at h
      obtain ⟨⟨h1, h3⟩, h4⟩ := h
      have hkn := List.mem_range.1 hk
      cases hok : ops[k]? with
      | none => rw [hok] at h4; cases h4
      | some o2 => rw [hok] at h4; exact hc k o2 hok (ih k hkn (by omega) h3) j h4

/-- THE REGION WITH A STORE, for use: Rs tell the first n operations' values; Fs lists those for which the store (operation n) does not wait; W tells what the store does, out of the values of operations p and q; the rest is a plain list. -/
theorem region_store {id : Nat} {a0 : Act} {w0 : World} {os : Oper} (n p q : Nat) (Fs : List Nat) (W : Value → Value → World → World → Prop) (Rs : List (Value → World → Prop)) (L : List (Option Tmp)) (hx : P.follows .mixedOrders = true) (hos : ops[n]? = some os)
    (hL : (List.range n).map (slot ops) = L) (hn : slotsOk ops a0.tmps.size = true) (he : earlyOk ops = true) (hz : Rs.length = n)
    (hlt : (decide (n < ops.size) && decide (p < n) && decide (q < n) && !Fs.contains p && !Fs.contains q) = true) (h2 : g2B ops n Fs = true) (h3 : g3B ops n = true)
    (hm : Monos Rs) (hd : noneOkN ops n Rs) (hst : Steps P Q ops (RL Rs) a0 w0 (ops.toList.take n) 0)
    (hfree : ∀ i, i ∈ Fs → ∀ o, ops[i]? = some o → ∀ a w, Leans ops (RL Rs) a0 w0 o a w → Region.wanted o (yielded ops a.tmps) = true ∧ ∃ v, RL Rs i v w ∧ ∀ w2, (execOp a.eval o).run P w2 = .ok (.value v) w2)
    (hstore : ∀ a w, Leans ops (RL Rs) a0 w0 os a w → os.dst = none ∧ Region.wanted os (yielded ops a.tmps) = true ∧ ∃ w', (execOp a.eval os).run P w = .ok .skip w' ∧ W (held ops a p) (held ops a q) w w')
    (hend : ∀ v w w', Below w0.heap.size w0 w → Vals v w Rs 0 → W (v p) (v q) w w' → wpList P ops Q (ops.toList.drop (n + 1)) (putL v L 0 a0) w') :
    (Code.region id ops true).wp P Q a0 w0 := by
  simp only [Bool.and_eq_true, decide_eq_true_eq, Bool.not_eq_true'] at hlt
  obtain ⟨⟨⟨⟨hlt', hp⟩, hq⟩, hfp⟩, hfq⟩ := hlt
  refine wp_region_any hx ?_
  refine rel_store (P := P) (ops := ops) (Q := Q) (R := RL Rs) (a0 := a0) (w0 := w0) n p q (fun j => Fs.contains j) W hn (fun j v w w' h hb => monos_all hm j v w w' h hb) (fun i o ho hi hdn w => hd i o ho hi hdn w)
    (fun i o ho hi a w hl => by
      have := steps_all hst i o (by rw [List.getElem?_take_of_lt hi]; simpa using ho) a w hl
      rwa [Nat.zero_add] at this)
    (fun i o ho hi hf a w hl => hfree i (by simpa using hf) o ho a w hl)
    (fun o ho a w hl => by
      rw [hos] at ho
      cases ho
      obtain ⟨h1, h4, w', hrun, hW⟩ := hstore a w hl
      refine ⟨h4, ?_⟩
      unfold Oper.wp
      rw [hrun]
      exact ⟨by rw [h1]; rfl, hW⟩)
    (fun a w w' hs hW => by
      rw [stands_frame_n (Nat.le_of_lt hlt') hL hn hs]
      exact hend _ w w' hs.below (vals_all Rs 0 (fun j hj => by
        rw [Nat.zero_add]
        exact hs.has j (by simpa [hz] using hj))) hW)
    (fun i o ho => by
      have := List.all_eq_true.1 he i (List.mem_range.2 (Array.getElem?_eq_some_iff.1 ho).1)
      rw [ho] at this
      exact this) hlt' hp hq hfp hfq
    (fun o ho l hc hed j hj hf => g2_listed h2 ho hc hed n j hj (by omega) (by simpa using hf))
    (fun i o ho hi j hj => by
      have h4 := List.all_eq_true.1 h3 i (List.mem_range.2 (Array.getElem?_eq_some_iff.1 ho).1)
      rw [ho] at h4
      simp only [hi, decide_true, Bool.not_true, Bool.false_or] at h4
      exact List.all_eq_true.1 h4 j (List.mem_range.2 hj)) a0 (World.drew w0)
    ⟨⟨rfl, rfl, rfl, Nat.le_refl _, fun _ _ => rfl⟩, rfl, rfl, fun _ _ => rfl, fun j hj => by cases hj⟩
end
end Go.Proofs.Ytfpdapdnmkadeaa.Reg
