/- What a call leaves as it was: all blocks that were there, those of S apart. -/
import Derived.Below
import Derived.Test.YtdekhhimjnockaaDoorWMore
namespace Go.Proofs.YtdekhhimjnockaaDoor
open Go.RowKit Go.Proofs.YtdekhhimjnockaaDoorW.PrintWords
set_option linter.unusedVariables false

structure Keeps (S : Nat → Prop) (w w' : World) : Prop where
  os : w'.os = w.os
  tape : w'.tape = w.tape
  output : w'.output = w.output
  size : w.heap.size ≤ w'.heap.size
  block : ∀ k, k < w.heap.size → ¬ S k → w'.heap[k]? = w.heap[k]?

namespace Keeps
variable {S S' : Nat → Prop} {w w1 w' : World}
theorem refl (S : Nat → Prop) (w : World) : Keeps S w w := ⟨rfl, rfl, rfl, Nat.le_refl _, fun _ _ _ => rfl⟩
theorem trans (h : Keeps S w w1) (k : Keeps S w1 w') : Keeps S w w' :=
  ⟨k.os.trans h.os, k.tape.trans h.tape, k.output.trans h.output, Nat.le_trans h.size k.size, fun i hi hs => (k.block i (Nat.lt_of_lt_of_le hi h.size) hs).trans (h.block i hi hs)⟩
/-- Behind it, what is new since w may turn, too. -/
theorem then_ (h : Keeps S w w1) (k : Keeps S' w1 w') (hs : ∀ i, S' i → S i ∨ w.heap.size ≤ i) : Keeps S w w' :=
  ⟨k.os.trans h.os, k.tape.trans h.tape, k.output.trans h.output, Nat.le_trans h.size k.size, fun i hi hn => (k.block i (Nat.lt_of_lt_of_le hi h.size) (fun h' => (hs i h').elim hn (fun h2 => by omega))).trans (h.block i hi hn)⟩
theorem mono (h : Keeps S w w') (hs : ∀ i, S i → S' i) : Keeps S' w w' := ⟨h.os, h.tape, h.output, h.size, fun i hi hn => h.block i hi (fun h' => hn (hs i h'))⟩
theorem of_below (h : Below w.heap.size w w') (S : Nat → Prop) : Keeps S w w' := ⟨h.os, h.tape, h.output, h.size, fun i hi _ => h.block i hi⟩
theorem then_below (h : Keeps S w w1) (k : Below w1.heap.size w1 w') : Keeps S w w' := h.trans (of_below k S)
theorem alloc (h : Keeps S w w1) (o : Obj) : Keeps S w (w1.alloc o) := h.then_below (below_alloc (Below.refl _ _) _)
theorem drew (h : Keeps S w w1) : Keeps S w w1.drew := ⟨h.os, h.tape, h.output, h.size, h.block⟩
theorem drewN (h : Keeps S w w1) (n : Nat) : Keeps S w (w1.drewN n) := ⟨h.os, h.tape, h.output, h.size, h.block⟩
theorem set (h : Keeps S w w1) {p : Addr} (hp : S p.block ∨ w.heap.size ≤ p.block) (v : Value) : Keeps S w (w1.setCell p v) :=
  ⟨h.os, h.tape, h.output, by simpa [World.setCell] using h.size, fun i hi hn => (Below.heap_setCell w1 p v i (by rintro rfl; exact hp.elim hn (fun h => by omega))).trans (h.block i hi hn)⟩
/-- All that may turn lies from B on. -/
theorem below (h : Keeps S w w') {B : Nat} (hB : B ≤ w.heap.size) (hs : ∀ i, S i → B ≤ i) : Below B w w' :=
  ⟨h.os, h.tape, h.output, h.size, fun i hi => h.block i (Nat.lt_of_lt_of_le hi hB) (fun h' => by have := hs i h'; omega)⟩
theorem below_then {w0 : World} {B : Nat} (hb : Below B w0 w) (hB : B ≤ w0.heap.size) (h : Keeps S w w') (hs : ∀ i, S i → B ≤ i) : Below B w0 w' :=
  ⟨h.os.trans hb.os, h.tape.trans hb.tape, h.output.trans hb.output, Nat.le_trans hb.size h.size, fun i hi => (h.block i (Nat.lt_of_lt_of_le hi (Nat.le_trans hB hb.size)) (fun h' => by have := hs i h'; omega)).trans (hb.block i hi)⟩
/-- A block that is none of S. -/
theorem blk (h : Keeps S w w') {g : Nat} {o : Obj} (hb : w.heap[g]? = some o) (hg : ¬ S g) : w'.heap[g]? = some o := (h.block g (blk_lt hb) hg).trans hb
end Keeps
end Go.Proofs.YtdekhhimjnockaaDoor
