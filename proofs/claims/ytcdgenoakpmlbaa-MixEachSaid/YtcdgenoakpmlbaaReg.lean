/- A region that draws its order, walked once: each operation is shown once, out of what holds of the values that it waits for; what holds of a value stays so while memory only grows. -/
import Derived.Orders
import Derived.Below
import Derived.Tactics
import Derived.Test.YtcdgenoakpmlbaaWLast
namespace Go.Proofs.Ytcdgenoakpmlbaa.Reg
open Go.RowKit
set_option linter.unusedVariables false

section
variable {P : Program} {ops : Array Oper} {Q : Exit → Act → World → Prop}

/-- The slot of an operation, and what it holds. -/
def slot (ops : Array Oper) (j : Nat) : Option Tmp := (ops[j]?).bind (·.dst)
def held (ops : Array Oper) (a : Act) (j : Nat) : Value := match slot ops j with
  | some t => a.tmps.getD t undef
  | none => undef

/-- No two operations fill one slot, and each slot is there. -/
def slotsOk (ops : Array Oper) (n : Nat) : Bool :=
  (List.range ops.size).all fun i => match slot ops i with
    | some t => decide (t < n) && (List.range ops.size).all fun j => i == j || slot ops j != some t
    | none => true

theorem slotsOk_lt {n : Nat} (h : slotsOk ops n = true) {i : Nat} {t : Tmp} (ht : slot ops i = some t) : t < n ∧ ∀ j, j ≠ i → slot ops j ≠ some t := by
  have hi : i < ops.size := by
    unfold slot at ht
    rcases Nat.lt_or_ge i ops.size with h' | h'
    · exact h'
    · rw [Array.getElem?_eq_none h'] at ht; cases ht
  have h1 := List.all_eq_true.1 h i (List.mem_range.2 hi)
  rw [ht] at h1
  simp only [Bool.and_eq_true, decide_eq_true_eq, List.all_eq_true, Bool.or_eq_true, beq_iff_eq, bne_iff_ne, List.mem_range] at h1
  refine ⟨h1.1, fun j hj => ?_⟩
  rcases Nat.lt_or_ge j ops.size with h' | h'
  · exact (h1.2 j h').resolve_left (fun e => hj e.symm)
  · unfold slot
    rw [Array.getElem?_eq_none h']
    simp

/-- What stands while the region runs: memory has only grown; what is listed holds what it should; all other slots are as they were. -/
structure Stands (ops : Array Oper) (R : Nat → Value → World → Prop) (a0 : Act) (w0 : World) (l : Nat → Bool) (a : Act) (w : World) : Prop where
  below : Below w0.heap.size w0 w
  defers : a.defers = a0.defers
  size : a.tmps.size = a0.tmps.size
  other : ∀ t, (∀ j, l j = true → slot ops j ≠ some t) → a.tmps[t]? = a0.tmps[t]?
  has : ∀ j, l j = true → R j (held ops a j) w

/-- What a step of operation i may lean on. -/
structure Leans (ops : Array Oper) (R : Nat → Value → World → Prop) (a0 : Act) (w0 : World) (o : Oper) (a : Act) (w : World) : Prop where
  below : Below w0.heap.size w0 w
  size : a.tmps.size = a0.tmps.size
  other : ∀ t, (∀ j, slot ops j ≠ some t) → a.tmps.getD t undef = a0.tmps.getD t undef
  has : ∀ j, (o.after.toList.any fun e => e.on == j && Region.binds .any e) = true → R j (held ops a j) w

def Does (P : Program) (Q : Exit → Act → World → Prop) (ops : Array Oper) (R : Nat → Value → World → Prop) (i : Nat) (o : Oper) (a : Act) (w : World) : Prop :=
  if Region.wanted o (yielded ops a.tmps) = true then o.wp P a w (fun a' w' => ∃ v, a' = a.put o.dst v ∧ R i v w' ∧ Below w.heap.size w w') Q else R i undef w

theorem getD_put {a : Act} {t : Tmp} {v : Value} (h : t < a.tmps.size) : (a.put (some t) v).tmps.getD t undef = v := by
  simp [Act.put, Array.getD_eq_getD_getElem?, h]

theorem getD_put_ne {a : Act} {s t : Tmp} {v : Value} (h : s ≠ t) : (a.put (some s) v).tmps.getD t undef = a.tmps.getD t undef := by
  simp [Act.put, Array.getD_eq_getD_getElem?, Array.getElem?_setIfInBounds_ne h]

theorem stands_step {R : Nat → Value → World → Prop} {a0 a : Act} {w0 w w' : World} {l : Nat → Bool} {i : Nat} {o : Oper} {v : Value} (hn : slotsOk ops a0.tmps.size = true)
    (hm : ∀ j v w w', R j v w → Below w.heap.size w w' → R j v w') (hs : Stands ops R a0 w0 l a w) (ho : ops[i]? = some o) (hl : l i = false) (hr : R i v w') (hb : Below w.heap.size w w') (hu : o.dst = none → R i undef w') :
    Stands ops R a0 w0 (fun j => if j = i then true else l j) (a.put o.dst v) w' := by
  have hb0 : Below w0.heap.size w0 w' := ⟨hb.os.trans hs.below.os, hb.tape.trans hs.below.tape, hb.output.trans hs.below.output, Nat.le_trans hs.below.size hb.size, fun k hk => (hb.block k (Nat.lt_of_lt_of_le hk hs.below.size)).trans (hs.below.block k hk)⟩
  cases hd : o.dst with
  | none =>
    have hsl : slot ops i = none := by simp [slot, ho, hd]
    refine ⟨hb0, hs.defers, hs.size, fun t ht => ?_, fun j hj => ?_⟩
    · exact hs.other t (fun j hj => ht j (by by_cases h : j = i <;> simp [h, hj]))
    · show R j (held ops a j) w'
      by_cases h : j = i
      · subst h
        unfold held
        rw [hsl]
        exact hu hd
      · simp only [h, if_false] at hj
        exact hm j _ _ _ (hs.has j hj) hb
  | some d =>
    have hsl : slot ops i = some d := by simp [slot, ho, hd]
    obtain ⟨hlt, hne⟩ := slotsOk_lt hn hsl
    have hlt' : d < a.tmps.size := by rw [hs.size]; exact hlt
    refine ⟨hb0, hs.defers, by simp [Act.put, hs.size], fun t ht => ?_, fun j hj => ?_⟩
    · have htd : d ≠ t := fun e => ht i (by simp) (by rw [hsl, e])
      simp only [Act.put, Array.getElem?_setIfInBounds_ne htd]
      exact hs.other t (fun j hj => ht j (by by_cases h : j = i <;> simp [h, hj]))
    · by_cases h : j = i
      · subst h
        have : held ops (a.put (some d) v) j = v := by unfold held; rw [hsl]; exact getD_put hlt'
        rw [this]
        exact hr
      · simp only [h, if_false] at hj
        have : held ops (a.put (some d) v) j = held ops a j := by
          unfold held
          cases hsj : slot ops j with
          | none => rfl
          | some t => exact getD_put_ne (fun e => hne j h (by rw [hsj, e]))
        rw [this]
        exact hm j _ _ _ (hs.has j hj) hb

theorem rel_any {R : Nat → Value → World → Prop} {a0 : Act} {w0 : World} (hn : slotsOk ops a0.tmps.size = true)
    (hm : ∀ j v w w', R j v w → Below w.heap.size w w' → R j v w')
    (hd : ∀ (i : Nat) (o : Oper), ops[i]? = some o → o.dst = none → ∀ w, R i undef w)
    (hstep : ∀ (i : Nat) (o : Oper), ops[i]? = some o → ∀ a w, Leans ops R a0 w0 o a w → Does P Q ops R i o a w)
    (hend : ∀ a w, Stands ops R a0 w0 (fun j => decide (j < ops.size)) a w → Q .normal a w)
    (hearly : ∀ (i : Nat) (o : Oper), ops[i]? = some o → (o.after.toList.all fun e => !Region.binds .any e || decide (e.on < i)) = true) :
    ∀ (fuel : Nat) (listed : Array Bool) (a : Act) (w : World), listed.size = ops.size → (listed.toList.filter (fun b => !b)).length ≤ fuel →
      Stands ops R a0 w0 (fun j => listed.getD j false) a w → wpAny P .any ops Q fuel listed a w := by
  have hready : ∀ (listed : Array Bool), listed.size = ops.size → Region.ready .any ops listed = [] → ∀ j, j < ops.size → listed.getD j false = true := by
    intro listed hsz hr j
    induction j using Nat.strongRecOn with
    | ind j ih =>
      intro hj
      cases hlj : listed.getD j false with
      | true => rfl
      | false =>
        exfalso
        have hoj : ops[j]? = some ops[j] := Array.getElem?_eq_getElem hj
        have : j ∈ Region.ready .any ops listed := by
          rw [mem_ready]
          refine ⟨?_, ops[j], hoj, fun e he hb => ?_⟩
          · simpa [Array.getD_eq_getD_getElem?, hsz, hj] using hlj
          · have h := List.all_eq_true.1 (hearly j _ hoj) e (by simpa using he)
            rw [hb] at h
            have h2 : e.on < j := by simpa using h
            exact ih e.on h2 (by omega)
        rw [hr] at this
        cases this
  have hall : ∀ {listed : Array Bool} {a : Act} {w : World}, listed.size = ops.size → Region.ready .any ops listed = [] → Stands ops R a0 w0 (fun j => listed.getD j false) a w → Q .normal a w := by
    intro listed a w hsz hr hs
    have e : (fun j => listed.getD j false) = (fun j => decide (j < ops.size)) := by
      funext j
      by_cases hj : j < ops.size
      · rw [hready listed hsz hr j hj]; simp [hj]
      · simp [Array.getD_eq_getD_getElem?, hsz, hj]
    rw [e] at hs
    exact hend a w hs
  intro fuel
  induction fuel with
  | zero =>
    intro listed a w hsz hf hs
    have hr : Region.ready .any ops listed = [] := by
      refine List.eq_nil_iff_forall_not_mem.2 (fun i hi => ?_)
      obtain ⟨h1, oi, hoi, _⟩ := mem_ready.1 hi
      have hil : i < listed.size := by rw [hsz]; exact (Array.getElem?_eq_some_iff.1 hoi).1
      have h2 : listed[i] = false := by simpa [Array.getD_eq_getD_getElem?, hil] using h1
      have hm : listed[i] ∈ listed.toList.filter (fun b => !b) := List.mem_filter.2 ⟨by simp, by simp [h2]⟩
      have hz : listed.toList.filter (fun b => !b) = [] := List.eq_nil_of_length_eq_zero (by omega)
      rw [hz] at hm
      cases hm
    exact ⟨hr, hall hsz hr hs⟩
  | succ fuel ih =>
    intro listed a w hsz hf hs
    refine ⟨fun hr => hall hsz hr hs, fun i hi => ?_⟩
    obtain ⟨h1, oi, hoi, hedges⟩ := mem_ready.1 hi
    have hil : i < listed.size := by rw [hsz]; exact (Array.getElem?_eq_some_iff.1 hoi).1
    have h2 : listed.getD i false = false := by simpa [Array.getD_eq_getD_getElem?, hil] using h1
    have hlean : Leans ops R a0 w0 oi a w := by
      refine ⟨hs.below, hs.size, fun t ht => ?_, fun j hj => ?_⟩
      · have := hs.other t (fun j _ => ht j)
        simp only [Array.getD_eq_getD_getElem?, this]
      · obtain ⟨e, he, heq⟩ := List.any_eq_true.1 hj
        rw [Bool.and_eq_true, beq_iff_eq] at heq
        rw [← heq.1]
        exact hs.has _ (hedges e (by simpa using he) heq.2)
    have hdo := hstep i oi hoi a w hlean
    have next : ∀ v w', R i v w' → Below w.heap.size w w' → wpAny P .any ops Q fuel (listed.setIfInBounds i true) (a.put oi.dst v) w' := by
      intro v w' hr hb
      refine ih _ _ _ (by simpa using hsz) ?_ ?_
      · have hcount : ∀ (l : List Bool) (i : Nat), l[i]? = some false → ((l.set i true).filter (fun b => !b)).length + 1 = (l.filter (fun b => !b)).length := by
          intro l
          induction l with
          | nil => intro i h; simp at h
          | cons x t iht =>
            intro i h
            cases i with
            | zero => simp at h; subst h; simp
            | succ i =>
              simp at h
              have := iht i h
              cases x <;> simp <;> simpa using this
        have := hcount listed.toList i (by
          have : listed[i] = false := by simpa [Array.getD_eq_getD_getElem?, hil] using h1
          simp [hil, this])
        simp only [Array.toList_setIfInBounds]
        omega
      · have st := stands_step hn hm hs hoi h2 hr hb (fun hnone => hd i oi hoi hnone w')
        have e : (fun j => if j = i then true else listed.getD j false) = (fun j => (listed.setIfInBounds i true).getD j false) := by
          funext j
          by_cases hji : j = i
          · subst hji; simp [Array.getD_eq_getD_getElem?, hil]
          · simp [hji, Array.getD_eq_getD_getElem?, Array.getElem?_setIfInBounds_ne (Ne.symm hji)]
        rw [e] at st
        exact st
    unfold wpOp
    rw [hoi]
    simp only
    unfold Does at hdo
    by_cases hw : Region.wanted oi (yielded ops a.tmps) = true
    · rw [if_pos hw] at hdo ⊢
      exact Or.inl (Oper.wp_mono (fun a' w' ⟨v, e, hr, hb⟩ => by subst e; exact next v w' hr hb) hdo)
    · rw [if_neg hw] at hdo ⊢
      exact next undef w hdo (Below.refl _ _)

/-- Whether each operation waits for earlier ones alone. -/
def earlyOk (ops : Array Oper) : Bool := (List.range ops.size).all fun i => match ops[i]? with
  | some o => o.after.toList.all fun e => !Region.binds .any e || decide (e.on < i)
  | none => true

theorem region_rel {id : Nat} {a0 : Act} {w0 : World} (R : Nat → Value → World → Prop) (hx : P.follows .mixedOrders = true) (hn : slotsOk ops a0.tmps.size = true) (he : earlyOk ops = true)
    (hm : ∀ j v w w', R j v w → Below w.heap.size w w' → R j v w')
    (hd : ∀ (i : Nat) (o : Oper), ops[i]? = some o → o.dst = none → ∀ w, R i undef w)
    (hstep : ∀ (i : Nat) (o : Oper), ops[i]? = some o → ∀ a w, Leans ops R a0 w0 o a w → Does P Q ops R i o a w)
    (hend : ∀ a w, Stands ops R a0 w0 (fun j => decide (j < ops.size)) a w → Q .normal a w) :
    (Code.region id ops true).wp P Q a0 w0 := by
  refine wp_region_any hx ?_
  refine rel_any hn hm hd hstep hend (fun i o ho => ?_) ops.size _ a0 _ (by simp) ?_ ?_
  · have := List.all_eq_true.1 he i (List.mem_range.2 (Array.getElem?_eq_some_iff.1 ho).1)
    rw [ho] at this
    exact this
  · exact Nat.le_trans (List.length_filter_le _ _) (by simp)
  · refine ⟨⟨rfl, rfl, rfl, Nat.le_refl _, fun _ _ => rfl⟩, rfl, rfl, fun _ _ => rfl, fun j hj => ?_⟩
    simp only [Array.getD_eq_getD_getElem?, Array.getElem?_replicate] at hj
    split at hj <;> simp at hj

/-- The frame with the slots of a list filled, one behind the other. -/
def putL (v : Nat → Value) : List (Option Tmp) → Nat → Act → Act
  | [], _, a => a
  | d :: L, j, a => putL v L (j + 1) (a.put d (v j))

theorem putL_defers (v : Nat → Value) : ∀ (L : List (Option Tmp)) (j : Nat) (a : Act), (putL v L j a).defers = a.defers ∧ (putL v L j a).tmps.size = a.tmps.size
  | [], _, _ => ⟨rfl, rfl⟩
  | d :: L, j, a => by
    obtain ⟨h1, h2⟩ := putL_defers v L (j + 1) (a.put d (v j))
    cases d <;> simp [putL, Act.put] at h1 h2 ⊢ <;> exact ⟨h1, h2⟩

theorem putL_other (v : Nat → Value) (t : Tmp) : ∀ (L : List (Option Tmp)) (j : Nat) (a : Act), some t ∉ L → (putL v L j a).tmps[t]? = a.tmps[t]?
  | [], _, _, _ => rfl
  | d :: L, j, a, h => by
    rw [List.mem_cons, not_or] at h
    have := putL_other v t L (j + 1) (a.put d (v j)) h.2
    rw [show putL v (d :: L) j a = putL v L (j + 1) (a.put d (v j)) from rfl, this]
    cases d with
    | none => rfl
    | some s => simp [Act.put, Array.getElem?_setIfInBounds_ne (show s ≠ t from fun e => h.1 (by rw [e]))]

theorem putL_at (v : Nat → Value) (t : Tmp) : ∀ (L : List (Option Tmp)) (j k : Nat) (a : Act), L[k]? = some (some t) → (∀ i, i ≠ k → L[i]? ≠ some (some t)) → t < a.tmps.size → (putL v L j a).tmps[t]? = some (v (j + k))
  | [], _, _, _, h, _, _ => by simp at h
  | d :: L, j, 0, a, h, hu, ht => by
    simp at h
    subst h
    rw [show putL v (some t :: L) j a = putL v L (j + 1) (a.put (some t) (v j)) from rfl, putL_other]
    · simp [Act.put, ht]
    · intro hm
      obtain ⟨i, hi⟩ := List.mem_iff_getElem?.1 hm
      exact hu (i + 1) (by omega) (by simpa using hi)
  | d :: L, j, k + 1, a, h, hu, ht => by
    rw [show putL v (d :: L) j a = putL v L (j + 1) (a.put d (v j)) from rfl]
    have := putL_at v t L (j + 1) k (a.put d (v j)) (by simpa using h) (fun i hi => by have := hu (i + 1) (by omega); simpa using this) (by cases d <;> simpa [Act.put] using ht)
    rw [this]
    congr 2
    omega

theorem stands_frame {R : Nat → Value → World → Prop} {a0 a : Act} {w0 w : World} {L : List (Option Tmp)} (hL : (List.range ops.size).map (slot ops) = L) (hn : slotsOk ops a0.tmps.size = true)
    (hs : Stands ops R a0 w0 (fun j => decide (j < ops.size)) a w) : a = putL (held ops a) L 0 a0 := by
  have hd := putL_defers (held ops a) L 0 a0
  have ht : a.tmps = (putL (held ops a) L 0 a0).tmps := by
    apply Array.ext_getElem?
    intro t
    by_cases h : ∃ j, j < ops.size ∧ slot ops j = some t
    · obtain ⟨j, hj, hsl⟩ := h
      obtain ⟨hlt, hne⟩ := slotsOk_lt hn hsl
      have hLk : ∀ k, L[k]? = if k < ops.size then some (slot ops k) else none := by
        intro k
        rw [← hL, List.getElem?_map]
        by_cases hk : k < ops.size
        · simp [hk]
        · simp [hk]
      rw [putL_at (held ops a) t L 0 j a0 (by rw [hLk, if_pos hj, hsl]) (fun i hi => by
        rw [hLk]
        split
        · intro e
          exact hne i hi (by simpa using e)
        · simp) hlt]
      have hlt' : t < a.tmps.size := by rw [hs.size]; exact hlt
      rw [Nat.zero_add]
      unfold held
      rw [hsl]
      simp [Array.getD_eq_getD_getElem?, hlt']
    · rw [putL_other]
      · exact hs.other t (fun j hj e => h ⟨j, by simpa using hj, e⟩)
      · intro hm
        rw [← hL, List.mem_map] at hm
        obtain ⟨j, hj, e⟩ := hm
        exact h ⟨j, List.mem_range.1 hj, e⟩
  cases a with
  | mk tm df =>
    have h2 := hs.defers
    simp only at ht h2
    generalize held ops ⟨tm, df⟩ = v at *
    cases hp : putL v L 0 a0 with
    | mk tm' df' =>
      rw [hp] at ht hd
      simp only at ht hd
      rw [ht, h2, hd.1]

/-- THE REGION, for use: R: what holds of each operation's value; L: the slots that they fill. -/
theorem region_walk {id : Nat} {a0 : Act} {w0 : World} (R : Nat → Value → World → Prop) (L : List (Option Tmp)) (hx : P.follows .mixedOrders = true) (hL : (List.range ops.size).map (slot ops) = L) (hn : slotsOk ops a0.tmps.size = true) (he : earlyOk ops = true)
    (hm : ∀ j v w w', R j v w → Below w.heap.size w w' → R j v w')
    (hd : ∀ (i : Nat) (o : Oper), ops[i]? = some o → o.dst = none → ∀ w, R i undef w)
    (hstep : ∀ (i : Nat) (o : Oper), ops[i]? = some o → ∀ a w, Leans ops R a0 w0 o a w → Does P Q ops R i o a w)
    (hend : ∀ (v : Nat → Value) w, Below w0.heap.size w0 w → (∀ j, j < ops.size → R j (v j) w) → Q .normal (putL v L 0 a0) w) :
    (Code.region id ops true).wp P Q a0 w0 := by
  refine region_rel R hx hn he hm hd hstep (fun a w hs => ?_)
  rw [stands_frame hL hn hs]
  exact hend _ w hs.below (fun j hj => hs.has j (by simpa using hj))

variable {R : Nat → Value → World → Prop} {i : Nat} {o : Oper} {a : Act} {w w' : World} {v : Value}
theorem does_value (hw : Region.wanted o (yielded ops a.tmps) = true) (hrun : (execOp a.eval o).run P w = .ok (.value v) w) (hr : R i v w) : Does P Q ops R i o a w := by
  unfold Does
  rw [if_pos hw]
  unfold Oper.wp
  rw [hrun]
  exact ⟨v, rfl, hr, Below.refl _ _⟩
theorem does_grow (hw : Region.wanted o (yielded ops a.tmps) = true) (hrun : (execOp a.eval o).run P w = .ok (.value v) w') (hr : R i v w') (hb : Below w.heap.size w w') : Does P Q ops R i o a w := by
  unfold Does
  rw [if_pos hw]
  unfold Oper.wp
  rw [hrun]
  exact ⟨v, rfl, hr, hb⟩
theorem does_skip (hw : Region.wanted o (yielded ops a.tmps) = false) (hr : R i undef w) : Does P Q ops R i o a w := by
  unfold Does
  rw [if_neg (by rw [hw]; decide)]
  exact hr
theorem does_call {f : FuncId} {fn : Func} {as : Array Operand} {ts : Array TypeId} (args : Array Value) (hw : Region.wanted o (yielded ops a.tmps) = true) (hf : P.funcs[f]? = some fn) (hname : (fn.name == "runtime.NumGoroutine") = false) (hb : fn.body.isSome = true)
    (hop : o.op = .call { callee := .value (.func f), args := as, argTypes := ts }) (hargs : as.map a.eval = args)
    (h : Calls P f args w fun e w' => ∃ v, e = .returned v ∧ R i v w' ∧ Below w.heap.size w w') : Does P Q ops R i o a w := by
  unfold Does
  rw [if_pos hw]
  have := Go.Proofs.YtcdgenoakpmlbaaW.PrintLast.goes_ (P := P) (ops := ops) (Q := Q) (K := fun a' w' => ∃ v, a' = a.put o.dst v ∧ R i v w' ∧ Below w.heap.size w w') hf hname hb args hw rfl hop hargs
    (h.mono fun e w' ⟨v, he, hr, hb⟩ => ⟨v, he, v, rfl, hr, hb⟩)
  rw [if_pos hw] at this
  exact this

/-- A slot that the region does not fill. -/
theorem Leans.out {R : Nat → Value → World → Prop} {a0 : Act} {w0 : World} (hl : Leans ops R a0 w0 o a w) {x : Value} (t : Tmp) (h : ((List.range ops.size).all fun j => slot ops j != some t) = true) (hx : a0.tmps.getD t undef = x := by rfl) : a.tmps.getD t undef = x := by
  rw [hl.other t (fun j e => ?_), hx]
  have hj : j < ops.size := by
    unfold slot at e
    rcases Nat.lt_or_ge j ops.size with h' | h'
    · exact h'
    · rw [Array.getElem?_eq_none h'] at e; cases e
  have := List.all_eq_true.1 h j (List.mem_range.2 hj)
  rw [e] at this
  simp at this
/-- What a guard's operation yields. -/
theorem Leans.yields {R : Nat → Value → World → Prop} {a0 : Act} {w0 : World} (hl : Leans ops R a0 w0 o a w) {t : Tmp} {b : Bool} (j : Nat) (hs : slot ops j = some t) (hz : decide (t < a0.tmps.size) = true) (h : a.tmps.getD t undef = .bool b) : yielded ops a.tmps j = some b := by
  unfold yielded
  have hz' : t < a.tmps.size := by rw [hl.size]; exact of_decide_eq_true hz
  rw [show (ops[j]?).bind (·.dst) = some t from hs]
  have : a.tmps[t]? = some (.bool b) := by
    rw [Array.getD_eq_getD_getElem?, Array.getElem?_eq_getElem hz'] at h
    rw [Array.getElem?_eq_getElem hz']
    simpa using h
  simp [this]
theorem wanted_of {o : Oper} {f : Nat → Option Bool} {j : Nat} {b c : Bool} (hg : o.guard = some (j, b)) (hc : (c == b) = true) (h : f j = some c) : Region.wanted o f = true := by
  unfold Region.wanted
  rw [hg]
  simp only [h]
  simpa using hc
theorem wanted_not {o : Oper} {f : Nat → Option Bool} {j : Nat} {b c : Bool} (hg : o.guard = some (j, b)) (hc : (c == b) = false) (h : f j = some c) : Region.wanted o f = false := by
  unfold Region.wanted
  rw [hg]
  simp only [h]
  simpa using hc

/-! The same with lists: what holds of each value, a step each. -/
def Mono (p : Value → World → Prop) : Prop := ∀ v w w', p v w → Below w.heap.size w w' → p v w'
def Is (x : Value) : Value → World → Prop := fun v _ => v = x
def Any : Value → World → Prop := fun _ _ => True
theorem mono_is (x : Value) : Mono (Is x) := fun _ _ _ h _ => h
theorem mono_any : Mono Any := fun _ _ _ h _ => h
def Monos : List (Value → World → Prop) → Prop
  | [] => True
  | p :: t => Mono p ∧ Monos t
def RL (Rs : List (Value → World → Prop)) (i : Nat) : Value → World → Prop := Rs.getD i Any
def Steps (P : Program) (Q : Exit → Act → World → Prop) (ops : Array Oper) (R : Nat → Value → World → Prop) (a0 : Act) (w0 : World) : List Oper → Nat → Prop
  | [], _ => True
  | o :: t, i => (∀ a w, Leans ops R a0 w0 o a w → Does P Q ops R i o a w) ∧ Steps P Q ops R a0 w0 t (i + 1)
def Vals (v : Nat → Value) (w : World) : List (Value → World → Prop) → Nat → Prop
  | [], _ => True
  | p :: t, j => p (v j) w ∧ Vals v w t (j + 1)
/-- An operation without a slot: nothing is told of it. -/
def noneOk (ops : Array Oper) (Rs : List (Value → World → Prop)) : Prop := ∀ (i : Nat) (o : Oper), ops[i]? = some o → o.dst = none → ∀ w, RL Rs i undef w

theorem monos_all : ∀ {Rs : List (Value → World → Prop)}, Monos Rs → ∀ i, Mono (RL Rs i)
  | [], _, i => by simp [RL]; exact mono_any
  | p :: t, h, 0 => h.1
  | p :: t, h, i + 1 => monos_all (Rs := t) h.2 i
theorem steps_all {R : Nat → Value → World → Prop} {a0 : Act} {w0 : World} : ∀ {l : List Oper} {k : Nat}, Steps P Q ops R a0 w0 l k → ∀ (i : Nat) (o : Oper), l[i]? = some o → ∀ a w, Leans ops R a0 w0 o a w → Does P Q ops R (k + i) o a w
  | [], _, _, i, o, ho, _, _, _ => by simp at ho
  | x :: t, k, h, 0, o, ho, a, w, hl => by
    simp at ho
    subst ho
    exact h.1 a w hl
  | x :: t, k, h, i + 1, o, ho, a, w, hl => by
    have := steps_all h.2 i o (by simpa using ho) a w hl
    rwa [show k + 1 + i = k + (i + 1) by omega] at this
theorem vals_all {v : Nat → Value} {w : World} : ∀ (Rs : List (Value → World → Prop)) (k : Nat), (∀ j, j < Rs.length → RL Rs j (v (k + j)) w) → Vals v w Rs k
  | [], _, _ => trivial
  | p :: t, k, h => ⟨h 0 (by simp), vals_all t (k + 1) (fun j hj => by
    have := h (j + 1) (by simpa using hj)
    rw [show k + 1 + j = k + (j + 1) by omega]
    exact this)⟩

theorem region_list {id : Nat} {a0 : Act} {w0 : World} (Rs : List (Value → World → Prop)) (L : List (Option Tmp)) (hx : P.follows .mixedOrders = true) (hL : (List.range ops.size).map (slot ops) = L) (hn : slotsOk ops a0.tmps.size = true) (he : earlyOk ops = true) (hz : Rs.length = ops.size)
    (hm : Monos Rs) (hd : noneOk ops Rs)
    (hstep : Steps P Q ops (RL Rs) a0 w0 ops.toList 0)
    (hend : ∀ (v : Nat → Value) w, Below w0.heap.size w0 w → Vals v w Rs 0 → Q .normal (putL v L 0 a0) w) :
    (Code.region id ops true).wp P Q a0 w0 := by
  refine region_walk (RL Rs) L hx hL hn he (fun j v w w' h hb => monos_all hm j v w w' h hb) hd (fun i o ho a w hl => ?_) (fun v w hb hv => hend v w hb (vals_all Rs 0 (fun j hj => by rw [Nat.zero_add]; exact hv j (by omega))))
  have := steps_all hstep i o (by simpa using ho) a w hl
  rwa [Nat.zero_add] at this
/-- Where each operation has a slot. -/
theorem noneOk_of {Rs : List (Value → World → Prop)} (h : ((List.range ops.size).all fun j => (slot ops j).isSome) = true) : noneOk ops Rs := by
  intro i o ho hd w
  have hi := (Array.getElem?_eq_some_iff.1 ho).1
  have := List.all_eq_true.1 h i (List.mem_range.2 hi)
  simp [slot, ho, hd] at this
theorem does_is {x : Value} (hR : R i = Is x) (hw : Region.wanted o (yielded ops a.tmps) = true) (hrun : (execOp a.eval o).run P w = .ok (.value x) w) : Does P Q ops R i o a w := does_value hw hrun (by rw [hR]; rfl)
theorem does_new {x : Value} {p : Value → World → Prop} (hR : R i = p) (hw : Region.wanted o (yielded ops a.tmps) = true) (hrun : (execOp a.eval o).run P w = .ok (.value x) w') (hr : p x w') (hb : Below w.heap.size w w') : Does P Q ops R i o a w := does_grow hw hrun (by rw [hR]; exact hr) hb
theorem does_any (hR : R i = Any) (hw : Region.wanted o (yielded ops a.tmps) = false) : Does P Q ops R i o a w := does_skip hw (by rw [hR]; trivial)
theorem does_call_is {x : Value} {f : FuncId} {fn : Func} {as : Array Operand} {ts : Array TypeId} (args : Array Value) (hR : R i = Is x) (hw : Region.wanted o (yielded ops a.tmps) = true) (hf : P.funcs[f]? = some fn) (hname : (fn.name == "runtime.NumGoroutine") = false) (hb : fn.body.isSome = true)
    (hop : o.op = .call { callee := .value (.func f), args := as, argTypes := ts }) (hargs : as.map a.eval = args)
    (h : Calls P f args w fun e w' => e = .returned x ∧ Below w.heap.size w w') : Does P Q ops R i o a w :=
  does_call args hw hf hname hb hop hargs (h.mono fun e w' ⟨he, hb⟩ => ⟨x, he, by rw [hR]; rfl, hb⟩)
theorem does_call_p {p : Value → World → Prop} {f : FuncId} {fn : Func} {as : Array Operand} {ts : Array TypeId} (args : Array Value) (hR : R i = p) (hw : Region.wanted o (yielded ops a.tmps) = true) (hf : P.funcs[f]? = some fn) (hname : (fn.name == "runtime.NumGoroutine") = false) (hb : fn.body.isSome = true)
    (hop : o.op = .call { callee := .value (.func f), args := as, argTypes := ts }) (hargs : as.map a.eval = args)
    (h : Calls P f args w fun e w' => ∃ v, e = .returned v ∧ p v w' ∧ Below w.heap.size w w') : Does P Q ops R i o a w :=
  does_call args hw hf hname hb hop hargs (h.mono fun e w' ⟨v, he, hp, hb⟩ => ⟨v, he, by rw [hR]; exact hp, hb⟩)
end
end Go.Proofs.Ytcdgenoakpmlbaa.Reg
