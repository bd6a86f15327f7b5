/- A map[int]bool that a call has made: what is true in it. -/
import Derived.Maps.OwnSet
import Derived.Test.YtcncninjnickoaaKeeps
namespace Go.Proofs.Ytcncninjnickoaa
open Go.RowKit Go.Proofs.YtcncninjnickoaaW.PrintWords
open Go.Maps (Keyed IsMap)
set_option linter.unusedVariables false

/-- Block b is a map of at most n numbers, true at S. -/
structure ISet (P : Program) (k e : TypeId) (w : World) (b n : Nat) (S : Int → Bool) : Prop where
  ex : ∃ D : DataW Unit, w.ownsMap P k (plainElem P e) b n D ∧ ∀ i, (Lit.int .i64 i).wf = true → D.atKey (.int .i64 i) (.lit (.bool false)) = .lit (.bool (S i))

namespace ISet
variable {P : Program} {k e t : TypeId} {w w' : World} {b n : Nat} {S : Int → Bool}
theorem plainElem_bool_inv {H : Type} (he : P.underlying e = some .bool) {v : Value} {x : Bool} {ps : List MemPlace} (h : plainElem (H := H) P e v = some (.lit (.bool x), ps)) : v = .bool x := by
  unfold plainElem at h
  rw [he] at h
  cases v <;> simp at h
  rw [h.1]
theorem made (w : World) (P : Program) (k e : TypeId) : ISet P k e (w.alloc (.map #[] 0)) w.heap.size 0 (fun _ => false) :=
  ⟨.map [], World.ownsMap_made w P k _, fun i _ => rfl⟩
theorem lt (h : ISet P k e w b n S) : b < w.heap.size := by
  obtain ⟨D, h1, _⟩ := h.ex
  exact h1.lt
theorem keeps {Q : Nat → Prop} (h : ISet P k e w b n S) (hk : Keeps Q w w') (hb : ¬ Q b) : ISet P k e w' b n S := by
  have hlt := h.lt
  obtain ⟨D, ⟨es, clock, hb', F, hs, hD⟩, h2⟩ := h.ex
  exact ⟨D, ⟨es, clock, (hk.block b hlt hb).trans hb', F, hs, hD⟩, h2⟩
theorem below (h : ISet P k e w b n S) (hb : Below w.heap.size w w') : ISet P k e w' b n S := h.keeps (Keeps.of_below hb (fun _ => False)) (fun h => h)
theorem get (h : ISet P k e w b n S) (hk : P.underlying k = some (.int .i64)) (ht : P.underlying t = some (.map k e)) (he : P.underlying e = some .bool) (hz : (zeroValue e).run P w = .ok (.bool false) w) (i : Int) (hi : (Lit.int .i64 i).wf = true) :
    (Instr.lookup t (.map (some b)) (.int .i64 i) false).run P w = .ok (.bool (S i)) w := by
  obtain ⟨D, h1, h2⟩ := h.ex
  obtain ⟨v, ps, hrun, hv⟩ := h1.lookup (Maps.int_keyed hk) ht hz (plainElem_bool he false) (Maps.keyOf_int_mk hk hi)
  rw [h2 i hi] at hv
  rw [hrun, plainElem_bool_inv he hv]
theorem put (h : ISet P k e w b n S) (hk : P.underlying k = some (.int .i64)) (ht : P.underlying t = some (.map k e)) (he : P.underlying e = some .bool) (hn : n < maxLen) (i : Int) (hi : (Lit.int .i64 i).wf = true) :
    ∃ w', (Instr.mapUpdate t (.map (some b)) (.int .i64 i) (.bool true)).run P w = .ok () w' ∧ ISet P k e w' b (n + 1) (fun j => S j || decide (j = i)) ∧ Keeps (fun j => j = b) w w' := by
  obtain ⟨D, h1, h2⟩ := h.ex
  obtain ⟨w', hrun, ho, hg⟩ := h1.update (Maps.int_keyed hk) ht hn (Maps.keyOf_int_mk hk hi) (plainElem_bool he true)
  refine ⟨w', hrun, ⟨_, ho, fun j hj => ?_⟩, ⟨hg.os, hg.tape, hg.output, hg.size, fun q hq hn => hg.block q hq (fun h => hn (Option.some.inj h))⟩⟩
  by_cases hji : j = i
  · subst hji
    rw [Maps.atKey_put_same h1.isMap ((Maps.int_keyed hk).key (Maps.keyOf_int_mk hk hi))]
    simp
  · rw [Maps.atKey_put_other (by intro h; cases h; exact hji rfl), h2 j hj]
    simp [hji]
theorem mono (h : ISet P k e w b n S) {m : Nat} (hm : n ≤ m) : ISet P k e w b m S := by
  obtain ⟨D, h1, h2⟩ := h.ex
  exact ⟨D, h1.mono hm, h2⟩
end ISet

/-- 'm[i] = true' at the operation. -/
theorem wpList_iset_put {P : Program} (w : World) {ops : Array Oper} {rest : List Oper} {o : Oper} {a : Act} {Q : Exit → Act → World → Prop}
    (hg : o.guard = none) (m x v : Operand) (t : TypeId) (hop : o.op = Op.mapUpdate t m x v) (k e : TypeId) (ht : P.underlying t = some (.map k e)) (hk : P.underlying k = some (.int .i64)) (he : P.underlying e = some .bool)
    (b n : Nat) (S : Int → Bool) (h : ISet P k e w b n S) (hn : n < maxLen) (i : Int) (hi : (Lit.int .i64 i).wf = true) (hm : a.eval m = .map (some b)) (hx : a.eval x = .int .i64 i) (hv : a.eval v = .bool true)
    (hK : ∀ w', ISet P k e w' b (n + 1) (fun j => S j || decide (j = i)) → Keeps (fun j => j = b) w w' → wpList P ops Q rest (a.put o.dst undef) w') :
    wpList P ops Q (o :: rest) a w := by
  refine wpList_plain hg fun K' hK' => ?_
  obtain ⟨w', hrun, r1, r2⟩ := h.put hk ht he hn i hi
  unfold Oper.wp
  simp [execOp, hop, hm, hx, hv, hrun, Result.andThen]
  exact hK' _ _ (hK w' r1 r2)
/-- 'm[i]' at the operation. -/
theorem wpList_iset_get {P : Program} (w : World) {ops : Array Oper} {rest : List Oper} {o : Oper} {a : Act} {Q : Exit → Act → World → Prop}
    (hg : o.guard = none) (m x : Operand) (t : TypeId) (hop : o.op = Op.lookup t m x false) (k e : TypeId) (ht : P.underlying t = some (.map k e)) (hk : P.underlying k = some (.int .i64)) (he : P.underlying e = some .bool) (hz : (zeroValue e).run P w = .ok (.bool false) w)
    (b n : Nat) (S : Int → Bool) (h : ISet P k e w b n S) (i : Int) (hi : (Lit.int .i64 i).wf = true) (hm : a.eval m = .map (some b)) (hx : a.eval x = .int .i64 i)
    (hK : wpList P ops Q rest (a.put o.dst (.bool (S i))) w) :
    wpList P ops Q (o :: rest) a w := by
  refine wpList_plain hg fun K' hK' => ?_
  have hrun := h.get hk ht he hz i hi
  unfold Oper.wp
  simp [execOp, hop, hm, hx, hrun, Result.andThen]
  exact hK' _ _ hK
end Go.Proofs.Ytcncninjnickoaa
