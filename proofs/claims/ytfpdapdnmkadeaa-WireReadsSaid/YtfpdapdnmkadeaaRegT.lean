/- A region that draws its order and whose last operations wait for all others: the first n are shown once each (as in Reg), the rest are walked in their forced order. -/
import Derived.StillTail
import Derived.Test.YtfpdapdnmkadeaaReg
namespace Go.Proofs.Ytfpdapdnmkadeaa.Reg
open Go.RowKit
set_option linter.unusedVariables false

section
variable {P : Program} {ops : Array Oper} {Q : Exit → Act → World → Prop}

/-- The first n are listed, no other. -/
def firsts (m n : Nat) : Array Bool := ((List.range m).map fun j => decide (j < n)).toArray

theorem rel_tail {R : Nat → Value → World → Prop} {a0 : Act} {w0 : World} (n : Nat) (hn : slotsOk ops a0.tmps.size = true)
    (hm : ∀ j v w w', R j v w → Below w.heap.size w w' → R j v w')
    (hd : ∀ (i : Nat) (o : Oper), ops[i]? = some o → i < n → o.dst = none → ∀ w, R i undef w)
    (hstep : ∀ (i : Nat) (o : Oper), ops[i]? = some o → i < n → ∀ a w, Leans ops R a0 w0 o a w → Does P Q ops R i o a w)
    (hend : ∀ a w, Stands ops R a0 w0 (fun j => decide (j < n)) a w → wpList P ops Q (ops.toList.drop n) a w)
    (hearly : ∀ (i : Nat) (o : Oper), ops[i]? = some o → (o.after.toList.all fun e => !Region.binds .any e || decide (e.on < i)) = true)
    (hs : Region.sinkB .any ops n = true) (hc : Region.chainB .any ops n = true) (hlt : n < ops.size) (hq : Region.seqB .any ops (ops.size - n) n (firsts ops.size n) = true) :
    ∀ (f : Nat) (listed : Array Bool) (a : Act) (w : World), HeadInv .any ops n listed → ((listed.toList.take n).filter (fun b => !b)).length = f →
      Stands ops R a0 w0 (fun j => listed.getD j false) a w → wpAny P .any ops Q (f + (ops.size - n)) listed a w := by
  intro f
  induction f with
  | zero =>
    intro listed a w inv hf hst
    have hall : ∀ j, j < n → listed.getD j false = true := by
      intro j hj
      have hjl : j < listed.size := by rw [inv.size]; omega
      cases hlj : listed.getD j false with
      | true => rfl
      | false =>
        exfalso
        have h2 : listed[j] = false := by simpa [Array.getD_eq_getD_getElem?, hjl] using hlj
        have hmem : listed[j] ∈ (listed.toList.take n).filter (fun b => !b) := List.mem_filter.2 ⟨List.mem_take_iff_getElem.2 ⟨j, by simp; omega, by simp⟩, by simp [h2]⟩
        rw [List.eq_nil_of_length_eq_zero hf] at hmem
        cases hmem
    have hpre : listed = firsts ops.size n := by
      apply Array.ext
      · simp [firsts, inv.size]
      · intro j h1 h2
        have hjs : j < ops.size := by rw [← inv.size]; exact h1
        simp only [firsts, List.getElem_toArray, List.getElem_map, List.getElem_range]
        by_cases hj : j < n
        · have := hall j hj
          simp only [Array.getD_eq_getD_getElem?, Array.getElem?_eq_getElem h1, Option.getD_some] at this
          rw [this]; simp [hj]
        · have := inv.tail j (by omega) hjs
          simp only [Array.getD_eq_getD_getElem?, Array.getElem?_eq_getElem h1, Option.getD_some] at this
          rw [this]; simp [hj]
    have hst' : Stands ops R a0 w0 (fun j => decide (j < n)) a w := by
      have e : (fun j => listed.getD j false) = (fun j => decide (j < n)) := by
        funext j
        by_cases hj : j < n
        · rw [hall j hj]; simp [hj]
        · by_cases hjs : j < ops.size
          · rw [getD_both (inv.tail j (by omega) hjs)]; simp [hj]
          · simp [Array.getD_eq_getD_getElem?, inv.size, hjs, hj]
      rw [← e]; exact hst
    have hl : (ops.toList.drop n).length = ops.size - n := by simp
    have := wpAny_of_seq (P := P) (md := .any) (ops := ops) (Q' := Q) (ops.toList.drop n) n listed a w (fun j => by simp [List.getElem?_drop]) (by rw [hl, hpre]; exact hq) (hend a w hst')
    rw [hl] at this
    rw [Nat.zero_add]
    exact this
  | succ f ih =>
    intro listed a w inv hf hst
    -- the least that is not listed
    have hex : ∃ i, i < n ∧ listed.getD i false = false := by
      rcases Classical.em (∃ i, i < n ∧ listed.getD i false = false) with h | h
      · exact h
      · exfalso
        have : (listed.toList.take n).filter (fun b => !b) = [] := by
          rw [List.filter_eq_nil_iff]
          intro x hx
          obtain ⟨j, hj, rfl⟩ := List.mem_take_iff_getElem.1 hx
          have hj1 : j < n := by omega
          have hj2 : j < listed.size := by simp at hj; omega
          cases hlj : listed.getD j false with
          | true =>
            simp only [Array.getD_eq_getD_getElem?, Array.getElem?_eq_getElem hj2, Option.getD_some] at hlj
            simp [hlj]
          | false => exact absurd ⟨j, hj1, hlj⟩ h
        rw [this] at hf
        simp at hf
    obtain ⟨i0, hi0, hu0⟩ := hex
    have hi0s : i0 < listed.size := by rw [inv.size]; omega
    have htw := tail_waits hs hc hlt inv _ i0 rfl hi0 (getD_in hi0s hu0)
    rw [show f + 1 + (ops.size - n) = (f + (ops.size - n)) + 1 by omega]
    refine ⟨fun hr => ?_, fun i hi => ?_⟩
    · exfalso
      have hready : ∀ j, j < ops.size → listed.getD j false = true := by
        intro j
        induction j using Nat.strongRecOn with
        | ind j ihj =>
          intro hj
          cases hlj : listed.getD j false with
          | true => rfl
          | false =>
            exfalso
            have hoj : ops[j]? = some ops[j] := Array.getElem?_eq_getElem hj
            have : j ∈ Region.ready .any ops listed := by
              rw [mem_ready]
              refine ⟨?_, ops[j], hoj, fun e he hb => ?_⟩
              · exact getD_in (by rw [inv.size]; exact hj) hlj
              · have h := List.all_eq_true.1 (hearly j _ hoj) e (by simpa using he)
                rw [hb] at h
                have h2 : e.on < j := by simpa using h
                exact ihj e.on h2 (by omega)
            rw [hr] at this
            cases this
      rw [hready i0 (by omega)] at hu0
      cases hu0
    · have hin : i < n := by
        rcases Nat.lt_or_ge i n with h | h
        · exact h
        · exact absurd hi (htw i h)
      obtain ⟨h1, oi, hoi, hedges⟩ := mem_ready.1 hi
      have hil : i < listed.size := by rw [inv.size]; exact (Array.getElem?_eq_some_iff.1 hoi).1
      have h2 : listed.getD i false = false := getD_both h1
      have hlean : Leans ops R a0 w0 oi a w := by
        refine ⟨hst.below, hst.size, fun t ht => ?_, fun j hj => ?_⟩
        · have := hst.other t (fun j _ => ht j)
          simp only [Array.getD_eq_getD_getElem?, this]
        · obtain ⟨e, he, heq⟩ := List.any_eq_true.1 hj
          rw [Bool.and_eq_true, beq_iff_eq] at heq
          rw [← heq.1]
          exact hst.has _ (hedges e (by simpa using he) heq.2)
      have hdo := hstep i oi hoi hin a w hlean
      have next : ∀ v w', R i v w' → Below w.heap.size w w' → wpAny P .any ops Q (f + (ops.size - n)) (listed.setIfInBounds i true) (a.put oi.dst v) w' := by
        intro v w' hr hb
        refine ih _ _ _ (inv.set hi hin) ?_ ?_
        · have hcount : ∀ (l : List Bool) (i : Nat), l[i]? = some false → ((l.set i true).filter (fun b => !b)).length + 1 = (l.filter (fun b => !b)).length := by
            intro l
            induction l with
            | nil => intro i h; simp at h
            | cons x t iht =>
              intro i h
              cases i with
              | zero => simp at h; subst h; simp
              | succ i =>
                simp at h
                have := iht i h
                cases x <;> simp <;> simpa using this
          have hli : listed[i] = false := by simpa [Array.getD_eq_getD_getElem?, hil] using h2
          have := hcount (listed.toList.take n) i (by rw [List.getElem?_take_of_lt hin]; simp [hil, hli])
          simp only [Array.toList_setIfInBounds]
          rw [List.take_set]
          omega
        · have st := stands_step hn hm hst hoi h2 hr hb (fun hnone => hd i oi hoi hin hnone w')
          have e : (fun j => if j = i then true else listed.getD j false) = (fun j => (listed.setIfInBounds i true).getD j false) := by
            funext j
            by_cases hji : j = i
            · subst hji; simp [Array.getD_eq_getD_getElem?, hil]
            · simp [hji, Array.getD_eq_getD_getElem?, Array.getElem?_setIfInBounds_ne (Ne.symm hji)]
          rw [e] at st
          exact st
      unfold wpOp
      rw [hoi]
      simp only
      unfold Does at hdo
      by_cases hw : Region.wanted oi (yielded ops a.tmps) = true
      · rw [if_pos hw] at hdo ⊢
        exact Or.inl (Oper.wp_mono (fun a' w' ⟨v, e, hr, hb⟩ => by subst e; exact next v w' hr hb) hdo)
      · rw [if_neg hw] at hdo ⊢
        exact next undef w hdo (Below.refl _ _)

theorem stands_frame_n {R : Nat → Value → World → Prop} {a0 a : Act} {w0 w : World} {n : Nat} (hns : n ≤ ops.size) {L : List (Option Tmp)} (hL : (List.range n).map (slot ops) = L) (hn : slotsOk ops a0.tmps.size = true)
    (hs : Stands ops R a0 w0 (fun j => decide (j < n)) a w) : a = putL (held ops a) L 0 a0 := by
  have hd := putL_defers (held ops a) L 0 a0
  have ht : a.tmps = (putL (held ops a) L 0 a0).tmps := by
    apply Array.ext_getElem?
    intro t
    by_cases h : ∃ j, j < n ∧ slot ops j = some t
    · obtain ⟨j, hj, hsl⟩ := h
      obtain ⟨hlt, hne⟩ := slotsOk_lt hn hsl
      have hLk : ∀ k, L[k]? = if k < n then some (slot ops k) else none := by
        intro k
        rw [← hL, List.getElem?_map]
        by_cases hk : k < n
        · simp [hk]
        · simp [hk]
      rw [putL_at (held ops a) t L 0 j a0 (by rw [hLk, if_pos hj, hsl]) (fun i hi => by
        rw [hLk]
        split
        · intro e
          exact hne i hi (by simpa using e)
        · simp) hlt]
      have hlt' : t < a.tmps.size := by rw [hs.size]; exact hlt
      rw [Nat.zero_add]
      unfold held
      rw [hsl]
      simp [Array.getD_eq_getD_getElem?, hlt']
    · rw [putL_other]
      · exact hs.other t (fun j hj e => h ⟨j, by simpa using hj, e⟩)
      · intro hm
        rw [← hL, List.mem_map] at hm
        obtain ⟨j, hj, e⟩ := hm
        exact h ⟨j, List.mem_range.1 hj, e⟩
  cases a with
  | mk tm df =>
    have h2 := hs.defers
    simp only at ht h2
    generalize held ops ⟨tm, df⟩ = v at *
    cases hp : putL v L 0 a0 with
    | mk tm' df' =>
      rw [hp] at ht hd
      simp only at ht hd
      rw [ht, h2, hd.1]

def noneOkN (ops : Array Oper) (n : Nat) (Rs : List (Value → World → Prop)) : Prop := ∀ (i : Nat) (o : Oper), ops[i]? = some o → i < n → o.dst = none → ∀ w, RL Rs i undef w
theorem noneOkN_of {n : Nat} {Rs : List (Value → World → Prop)} (h : ((ops.toList.take n).all fun o => o.dst.isSome) = true) : noneOkN ops n Rs := fun i o ho hi hd => by
  have hm : o ∈ ops.toList.take n := List.mem_of_getElem? (by rw [List.getElem?_take_of_lt hi]; simpa using ho)
  have := List.all_eq_true.1 h o hm
  rw [hd] at this
  cases this

/-- THE REGION WITH A TAIL, for use: Rs tell the first n operations' values; the rest is a plain list. -/
theorem region_tail {id : Nat} {a0 : Act} {w0 : World} (n : Nat) (Rs : List (Value → World → Prop)) (L : List (Option Tmp)) (hx : P.follows .mixedOrders = true) (hL : (List.range n).map (slot ops) = L) (hn : slotsOk ops a0.tmps.size = true) (he : earlyOk ops = true) (hz : Rs.length = n)
    (hlt : decide (n < ops.size) = true) (hs : Region.sinkB .any ops n = true) (hc : Region.chainB .any ops n = true) (hq : Region.seqB .any ops (ops.size - n) n (firsts ops.size n) = true)
    (hm : Monos Rs) (hd : noneOkN ops n Rs) (hst : Steps P Q ops (RL Rs) a0 w0 (ops.toList.take n) 0)
    (hend : ∀ v w, Below w0.heap.size w0 w → Vals v w Rs 0 → wpList P ops Q (ops.toList.drop n) (putL v L 0 a0) w) :
    (Code.region id ops true).wp P Q a0 w0 := by
  have hlt' := of_decide_eq_true hlt
  refine wp_region_any hx ?_
  have H := rel_tail (P := P) (ops := ops) (Q := Q) (R := RL Rs) (a0 := a0) (w0 := w0) n hn (fun j v w w' h hb => monos_all hm j v w w' h hb) (fun i o ho hi hdn w => hd i o ho hi hdn w)
    (fun i o ho hi a w hl => by
      have := steps_all hst i o (by rw [List.getElem?_take_of_lt hi]; simpa using ho) a w hl
      rwa [Nat.zero_add] at this)
    (fun a w hs => by
      rw [stands_frame_n (Nat.le_of_lt hlt') hL hn hs]
      exact hend _ w hs.below (vals_all Rs 0 (fun j hj => by
        rw [Nat.zero_add]
        exact hs.has j (by simpa [hz] using hj))))
    (fun i o ho => by
      have := List.all_eq_true.1 he i (List.mem_range.2 (Array.getElem?_eq_some_iff.1 ho).1)
      rw [ho] at this
      exact this) hs hc hlt' hq n (Array.replicate ops.size false) a0 (World.drew w0)
    ⟨by simp, fun j oj _ hl => (by rw [getD_replicate_false] at hl; cases hl), fun t _ ht => getD_in (by simpa using ht) (getD_replicate_false _ _)⟩
    (by
      have : (Array.replicate ops.size false).toList.take n = List.replicate n false := by
        rw [Array.toList_replicate, List.take_replicate]; congr 1; omega
      rw [this]; simp)
    ⟨⟨rfl, rfl, rfl, Nat.le_refl _, fun _ _ => rfl⟩, rfl, rfl, fun _ _ => rfl, fun j hj => by rw [getD_replicate_false] at hj; cases hj⟩
  rw [show n + (ops.size - n) = ops.size by omega] at H
  exact H
end
end Go.Proofs.Ytfpdapdnmkadeaa.Reg
