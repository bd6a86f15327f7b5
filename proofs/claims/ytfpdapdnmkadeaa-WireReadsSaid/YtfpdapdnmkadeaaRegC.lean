/- A region that draws its order with ONE call that turns memory: every other operation is shown once, ahead of the call, behind it, or, where it is free, both. -/
import Derived.Test.YtfpdapdnmkadeaaRegS
namespace Go.Proofs.Ytfpdapdnmkadeaa.Reg
open Go.RowKit
set_option linter.unusedVariables false

section
variable {P : Program} {ops : Array Oper} {Q : Exit → Act → World → Prop}

theorem stands_turn {R : Nat → Value → World → Prop} {a0 a : Act} {w0 w w' : World} {l : Nat → Bool} {i : Nat} {o : Oper} {v : Value} (hn : slotsOk ops a0.tmps.size = true)
    (hT : ∀ j u, j ≠ i → R j u w → R j u w') (hs : Stands ops R a0 w0 l a w) (ho : ops[i]? = some o) (hl : l i = false) (hr : R i v w') (hu : o.dst = none → R i undef w') :
    Stands ops R a0 w' (setf l i) (a.put o.dst v) w' := by
  cases hd : o.dst with
  | none =>
    have hsl : slot ops i = none := by simp [slot, ho, hd]
    refine ⟨Below.refl _ _, hs.defers, hs.size, fun t ht => ?_, fun j hj => ?_⟩
    · exact hs.other t (fun j hj => ht j (by unfold setf; by_cases h : j = i <;> simp [h, hj]))
    · show R j (held ops a j) w'
      by_cases h : j = i
      · subst h
        unfold held
        rw [hsl]
        exact hu hd
      · unfold setf at hj
        simp only [h, if_false] at hj
        exact hT j _ h (hs.has j hj)
  | some d =>
    have hsl : slot ops i = some d := by simp [slot, ho, hd]
    obtain ⟨hlt, hne⟩ := slotsOk_lt hn hsl
    have hlt' : d < a.tmps.size := by rw [hs.size]; exact hlt
    refine ⟨Below.refl _ _, hs.defers, by simp [Act.put, hs.size], fun t ht => ?_, fun j hj => ?_⟩
    · have htd : d ≠ t := fun e => ht i (by simp [setf]) (by rw [hsl, e])
      simp only [Act.put, Array.getElem?_setIfInBounds_ne htd]
      exact hs.other t (fun j hj => ht j (by unfold setf; by_cases h : j = i <;> simp [h, hj]))
    · by_cases h : j = i
      · subst h
        have : held ops (a.put (some d) v) j = v := by unfold held; rw [hsl]; exact getD_put hlt'
        rw [this]
        exact hr
      · unfold setf at hj
        simp only [h, if_false] at hj
        have : held ops (a.put (some d) v) j = held ops a j := by
          unfold held
          cases hsj : slot ops j with
          | none => rfl
          | some t => exact getD_put_ne (fun e => hne j h (by rw [hsj, e]))
        rw [this]
        exact hT j _ h (hs.has j hj)

/-- The call's step. -/
def Turns (P : Program) (Q : Exit → Act → World → Prop) (ops : Array Oper) (R : Nat → Value → World → Prop) (T : World → World → Prop) (i : Nat) (o : Oper) (a : Act) (w : World) : Prop :=
  Region.wanted o (yielded ops a.tmps) = true ∧ o.wp P a w (fun a' w' => ∃ v, a' = a.put o.dst v ∧ R i v w' ∧ T w w') Q

theorem rel_turn {R : Nat → Value → World → Prop} {a0 : Act} {w0 : World} (n : Nat) (T : World → World → Prop) (bo ao : Nat → Bool) (hn : slotsOk ops a0.tmps.size = true)
    (hm : ∀ j v w w', R j v w → Below w.heap.size w w' → R j v w') (hT : ∀ j u w w', j ≠ n → R j u w → T w w' → R j u w')
    (hd : ∀ (i : Nat) (o : Oper), ops[i]? = some o → o.dst = none → ∀ w, R i undef w)
    (hbefore : ∀ (i : Nat) (o : Oper), ops[i]? = some o → i ≠ n → ao i = false → ∀ a w, Leans ops R a0 w0 o a w → Does P Q ops R i o a w)
    (hafter : ∀ (i : Nat) (o : Oper), ops[i]? = some o → i ≠ n → bo i = false → ∀ w1 w2, Below w0.heap.size w0 w1 → T w1 w2 → ∀ a w, Leans ops R a0 w2 o a w → Does P Q ops R i o a w)
    (hpivot : ∀ (o : Oper), ops[n]? = some o → ∀ a w, Leans ops R a0 w0 o a w → Turns P Q ops R T n o a w)
    (hend : ∀ a w1 w2 w, Below w0.heap.size w0 w1 → T w1 w2 → Stands ops R a0 w2 (fun j => decide (j < ops.size)) a w → Q .normal a w)
    (hearly : ∀ (i : Nat) (o : Oper), ops[i]? = some o → (o.after.toList.all fun e => !Region.binds .any e || decide (e.on < i)) = true)
    (hlt : n < ops.size)
    (hbo : ∀ (o : Oper), ops[n]? = some o → ∀ l : Nat → Bool, Closed ops l → (∀ j, waits o j = true → l j = true) → ∀ j, j < ops.size → j ≠ n → bo j = true → l j = true)
    (hao : ∀ (i : Nat) (o : Oper), ops[i]? = some o → i ≠ n → ao i = true → ∀ l : Nat → Bool, Closed ops l → (∀ j, waits o j = true → l j = true) → l n = true) :
    ∀ (a : Act) (w : World), Stands ops R a0 w0 (fun _ => false) a w → wpAny P .any ops Q ops.size (Array.replicate ops.size false) a w := by
  intro a w hst
  refine any_inv_closed (fun l a w => (l n = false ∧ Stands ops R a0 w0 l a w) ∨ (l n = true ∧ ∃ w1 w2, Below w0.heap.size w0 w1 ∧ T w1 w2 ∧ Stands ops R a0 w2 l a w)) ?_ ?_ hearly ops.size a w (Nat.le_refl _) (Or.inl ⟨rfl, hst⟩)
  · intro i o ho l a w hli hed hcl hinv
    have lean : ∀ {wb : World}, Stands ops R a0 wb l a w → Leans ops R a0 wb o a w := fun h2 => ⟨h2.below, h2.size, fun t ht => (by
      have := h2.other t (fun j _ => ht j)
      simp only [Array.getD_eq_getD_getElem?, this]), fun j hj => h2.has j (hed j hj)⟩
    rcases hinv with ⟨h1, h2⟩ | ⟨h1, w1, w2, hb1, ht, h2⟩
    · by_cases hin : i = n
      · subst hin
        obtain ⟨hw, hp⟩ := hpivot o ho a w (lean h2)
        unfold wpOp
        rw [ho]
        simp only
        rw [if_pos hw]
        refine Or.inl (Oper.wp_mono (fun a' w' ⟨v, e, hr, hT'⟩ => ?_) hp)
        subst e
        exact Or.inr ⟨by simp [setf], w, w', h2.below, hT', stands_turn hn (fun j u hj h => hT j u w w' hj h hT') h2 ho hli hr (fun hnone => hd i o ho hnone w')⟩
      · have ha : ao i = false := by
          cases ha : ao i with
          | false => rfl
          | true => rw [hao i o ho hin ha l hcl hed] at h1; cases h1
        have hdo := hbefore i o ho hin ha a w (lean h2)
        have next : ∀ v w', R i v w' → Below w.heap.size w w' → (setf l i n = false ∧ Stands ops R a0 w0 (setf l i) (a.put o.dst v) w') := fun v w' hr hb =>
          ⟨by unfold setf; rw [if_neg (Ne.symm hin)]; exact h1, stands_step hn hm h2 ho hli hr hb (fun hnone => hd i o ho hnone w')⟩
        unfold wpOp
        rw [ho]
        simp only
        unfold Does at hdo
        by_cases hw : Region.wanted o (yielded ops a.tmps) = true
        · rw [if_pos hw] at hdo ⊢
          exact Or.inl (Oper.wp_mono (fun a' w' ⟨v, e, hr, hb⟩ => by subst e; exact Or.inl (next v w' hr hb)) hdo)
        · rw [if_neg hw] at hdo ⊢
          exact Or.inl (next undef w hdo (Below.refl _ _))
    · have hin : i ≠ n := fun e => by subst e; rw [h1] at hli; cases hli
      have hio : i < ops.size := (Array.getElem?_eq_some_iff.1 ho).1
      have hb : bo i = false := by
        cases hb : bo i with
        | false => rfl
        | true =>
          have hon : ops[n]? = some ops[n] := Array.getElem?_eq_getElem hlt
          rw [hbo _ hon l hcl (fun j hj => hcl n _ hon h1 j hj) i hio hin hb] at hli
          cases hli
      have hdo := hafter i o ho hin hb w1 w2 hb1 ht a w (lean h2)
      have next : ∀ v w', R i v w' → Below w.heap.size w w' → (setf l i n = true ∧ ∃ w1 w2, Below w0.heap.size w0 w1 ∧ T w1 w2 ∧ Stands ops R a0 w2 (setf l i) (a.put o.dst v) w') := fun v w' hr hb =>
        ⟨by unfold setf; rw [if_neg (Ne.symm hin)]; exact h1, w1, w2, hb1, ht, stands_step hn hm h2 ho hli hr hb (fun hnone => hd i o ho hnone w')⟩
      unfold wpOp
      rw [ho]
      simp only
      unfold Does at hdo
      by_cases hw : Region.wanted o (yielded ops a.tmps) = true
      · rw [if_pos hw] at hdo ⊢
        exact Or.inl (Oper.wp_mono (fun a' w' ⟨v, e, hr, hb⟩ => by subst e; exact Or.inr (next v w' hr hb)) hdo)
      · rw [if_neg hw] at hdo ⊢
        exact Or.inr (next undef w hdo (Below.refl _ _))
  · intro a w hinv
    rcases hinv with ⟨h1, h2⟩ | ⟨h1, w1, w2, hb1, ht, h2⟩
    · simp [hlt] at h1
    · exact hend a w1 w2 w hb1 ht h2

/-- Steps at places that are named. -/
def StepsB (P : Program) (Q : Exit → Act → World → Prop) (ops : Array Oper) (R : Nat → Value → World → Prop) (a0 : Act) (w0 : World) : List Nat → Prop
  | [] => True
  | i :: t => (∀ o, ops[i]? = some o → ∀ a w, Leans ops R a0 w0 o a w → Does P Q ops R i o a w) ∧ StepsB P Q ops R a0 w0 t
theorem stepsB_all {R : Nat → Value → World → Prop} {a0 : Act} {w0 : World} : ∀ {L : List Nat}, StepsB P Q ops R a0 w0 L → ∀ i, i ∈ L → ∀ o, ops[i]? = some o → ∀ a w, Leans ops R a0 w0 o a w → Does P Q ops R i o a w
  | [], _, i, hi => by cases hi
  | k :: t, h, i, hi => by
    rcases List.mem_cons.1 hi with rfl | hi
    · exact h.1
    · exact stepsB_all h.2 i hi
/-- Behind the call what is not among those of A is done; ahead of it what is not among those of B is not. -/
def aoB (ops : Array Oper) (n : Nat) (B : List Nat) : Bool := (List.range ops.size).all fun i => i == n || B.contains i || (decide (n < i) && match ops[i]? with
  | none => true
  | some o => waits o n || (List.range i).any fun k => decide (n < k) && !B.contains k && waits o k)
def boA (ops : Array Oper) (n : Nat) (A : List Nat) : Bool := (List.range ops.size).all fun i => A.contains i || decide (i < n) || i == n
theorem ao_listed {n : Nat} {B : List Nat} (h : aoB ops n B = true) {l : Nat → Bool} (hc : Closed ops l) : ∀ i, ∀ o, ops[i]? = some o → i ≠ n → B.contains i = false → (∀ j, waits o j = true → l j = true) → l n = true := by
  intro i
  induction i using Nat.strongRecOn with
  | ind i ih =>
    intro o ho hin hB hed
    have hio : i < ops.size := (Array.getElem?_eq_some_iff.1 ho).1
    have h1 := List.all_eq_true.1 h i (List.mem_range.2 hio)
    rw [hB, ho, Bool.or_false, Bool.or_eq_true] at h1
    rcases h1 with h1 | h1
    · exact absurd (by simpa using h1) hin
    · rw [Bool.and_eq_true, Bool.or_eq_true] at h1
      rcases h1.2 with h2 | h2
      · exact hed n h2
      · obtain ⟨k, hk, h3⟩ := List.any_eq_true.1 h2
        rw [Bool.and_eq_true, Bool.and_eq_true, decide_eq_true_eq, Bool.not_eq_true'] at h3
        obtain ⟨⟨h4, h5⟩, h6⟩ := h3
        have hki := List.mem_range.1 hk
        have hok : ops[k]? = some ops[k] := Array.getElem?_eq_getElem (by omega)
        have hlk := hed k h6
        exact ih k hki _ hok (by omega) h5 (fun j hj => hc k _ hok hlk j hj)

/-- THE REGION WITH A CALL THAT TURNS MEMORY, for use: the call is operation n; B: those that may come ahead of it, A: those that may come behind it. -/
theorem region_turn {id : Nat} {a0 : Act} {w0 : World} {on : Oper} (n : Nat) (T : World → World → Prop) (B A : List Nat) (Rs : List (Value → World → Prop)) (L : List (Option Tmp)) (hx : P.follows .mixedOrders = true) (hon : ops[n]? = some on)
    (hL : (List.range ops.size).map (slot ops) = L) (hn : slotsOk ops a0.tmps.size = true) (he : earlyOk ops = true) (hz : Rs.length = ops.size) (hlt : decide (n < ops.size) = true)
    (h2 : g2B ops n (A.filter fun j => decide (j < n)) = true) (ha : boA ops n A = true) (hb : aoB ops n B = true)
    (hm : Monos Rs) (hT : ∀ j u w w', j ≠ n → RL Rs j u w → T w w' → RL Rs j u w') (hd : noneOk ops Rs)
    (hpivot : ∀ a w, Leans ops (RL Rs) a0 w0 on a w → Turns P Q ops (RL Rs) T n on a w)
    (hbefore : StepsB P Q ops (RL Rs) a0 w0 B)
    (hafter : ∀ w1 w2, Below w0.heap.size w0 w1 → T w1 w2 → StepsB P Q ops (RL Rs) a0 w2 A)
    (hend : ∀ (v : Nat → Value) w1 w2 w, Below w0.heap.size w0 w1 → T w1 w2 → Below w2.heap.size w2 w → Vals v w Rs 0 → Q .normal (putL v L 0 a0) w) :
    (Code.region id ops true).wp P Q a0 w0 := by
  refine wp_region_any hx ?_
  refine rel_turn (P := P) (ops := ops) (Q := Q) (R := RL Rs) (a0 := a0) (w0 := w0) n T (fun j => !A.contains j) (fun j => !B.contains j) hn (fun j v w w' h hb => monos_all hm j v w w' h hb) hT hd
    (fun i o ho hin hi => stepsB_all hbefore i (by simpa using hi) o ho)
    (fun i o ho hin hi w1 w2 h1 h2 => stepsB_all (hafter w1 w2 h1 h2) i (by simpa using hi) o ho)
    (fun o ho a w hl => by rw [hon] at ho; cases ho; exact hpivot a w hl)
    (fun a w1 w2 w h1 h2 hs => by
      rw [stands_frame hL hn hs]
      exact hend _ w1 w2 w h1 h2 hs.below (vals_all Rs 0 (fun j hj => by
        rw [Nat.zero_add]
        exact hs.has j (by simpa [hz] using hj))))
    (fun i o ho => by
      have := List.all_eq_true.1 he i (List.mem_range.2 (Array.getElem?_eq_some_iff.1 ho).1)
      rw [ho] at this
      exact this) (of_decide_eq_true hlt)
    (fun o ho l hc hed j hj hjn hA => by
      have hAj : A.contains j = false := by simpa using hA
      have h3 := List.all_eq_true.1 ha j (List.mem_range.2 hj)
      rw [hAj, Bool.false_or, Bool.or_eq_true, decide_eq_true_eq] at h3
      rcases h3 with h3 | h3
      · refine g2_listed h2 ho hc hed n j h3 (by omega) ?_
        cases hc2 : (A.filter fun j => decide (j < n)).contains j with
        | false => rfl
        | true =>
          have : j ∈ A := (show j ∈ A ∧ j < n by simpa using hc2).1
          have : A.contains j = true := by simpa using this
          rw [hAj] at this
          cases this
      · exact absurd (by simpa using h3) hjn)
    (fun i o ho hin hB l hc hed => ao_listed hb hc i o ho hin (by simpa using hB) hed) a0 (World.drew w0)
    ⟨⟨rfl, rfl, rfl, Nat.le_refl _, fun _ _ => rfl⟩, rfl, rfl, fun _ _ => rfl, fun j hj => by cases hj⟩
/-- The call's step, out of what the function's call comes to. -/
theorem turns_call {R : Nat → Value → World → Prop} {T : World → World → Prop} {i : Nat} {o : Oper} {a : Act} {w : World} {f : FuncId} {fn : Func} {as : Array Operand} {ts : Array TypeId} (args : Array Value) (hw : Region.wanted o (yielded ops a.tmps) = true) (hf : P.funcs[f]? = some fn) (hname : (fn.name == "runtime.NumGoroutine") = false) (hb : fn.body.isSome = true)
    (hop : o.op = .call { callee := .value (.func f), args := as, argTypes := ts }) (hargs : as.map a.eval = args)
    (h : Calls P f args w fun e w' => ∃ v, e = .returned v ∧ R i v w' ∧ T w w') : Turns P Q ops R T i o a w := by
  refine ⟨hw, ?_⟩
  have := Go.Proofs.YtfpdapdnmkadeaaW.PrintLast.goes_ (P := P) (ops := ops) (Q := Q) (K := fun a' w' => ∃ v, a' = a.put o.dst v ∧ R i v w' ∧ T w w') hf hname hb args hw rfl hop hargs
    (h.mono fun e w' ⟨v, he, hr, hb⟩ => ⟨v, he, v, rfl, hr, hb⟩)
  rw [if_pos hw] at this
  exact this
end
end Go.Proofs.Ytfpdapdnmkadeaa.Reg
