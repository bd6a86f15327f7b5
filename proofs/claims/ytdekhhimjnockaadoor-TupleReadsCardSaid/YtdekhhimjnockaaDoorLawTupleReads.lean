/- Which texts are a tuple's key, and of which: proved for every input, at any size. No condition beyond the statement's own. -/
import Derived.SevenTiedAt
import Derived.LaidMore
import Derived.Test.YtdekhhimjnockaaDoorRows
import Derived.Test.YtdekhhimjnockaaDoorCards
import Derived.Test.YtdekhhimjnockaaDoorTie
import Derived.Test.YtdekhhimjnockaaDoorRow
import Derived.Test.YtdekhhimjnockaaDoorTuWorld
import Derived.Test.YtdekhhimjnockaaDoorTuReads
namespace Go.Proofs.YtdekhhimjnockaaDoor.tupleReads
open Go.ChangeShapes Go.WideShapes Go.ChangeAt Go.RowKit
open Go.ChangeMaps (open_string shut_string)
open Go.Proofs.YtdekhhimjnockaaDoorW.PrintWords
open Go.Proofs.YtdekhhimjnockaaDoor.Tu
set_option linter.unusedVariables false
theorem own : ownKnob Tryd.prog.godebug = none := by kernel_rfl
theorem laidOut : laidOutB Tryd.prog = true := by kernel_rfl

set_option maxRecDepth 100000 in
theorem lifted (os : Os) (started : os.Started) (H : Type) (enc : TypeId × Value → H) :
    ReturnsInHanded {} Tryd.checked os 3 .any (fun w args => (Rows.tupleReadsSpec.pre enc Tryd.prog Tryd.f3 [] false w args ∧ laidMetH Tryd.prog Tu.laid w) ∧ sizedMet enc Tryd.prog Tryd.f3 (OpenSpec.ofChange Rows.tupleReadsSpec) false w args) (Rows.tupleReadsSpec.post enc Tryd.prog Tryd.f3 false true false false) := by
  refine tuHanded (C := Tryd.checked) (X := fun w _ => laidMetH Tryd.prog Tu.laid w) own started (by kernel_rfl) Tryd.func3
    (ChangeSpec.witness_shaped (enc := enc) (C := Tryd.checked) (os := os) (X := fun w _ => laidMetH Tryd.prog Tu.laid w) false (Tu.laidWorld os) #[.string ByteArray.empty] 8 rfl (World.shaped_of_RefB (by kernel_rfl) (by kernel_rfl)) (by kernel_rfl) (by kernel_rfl) (by kernel_rfl) (Tu.laid_met os _)) ?_
  intro W base args ds gs before hval0 hW hcnd hsz0 hsh
  have hmx := Tu.max_of hsh
  have hsz : (DataW.weightsEach Tryd.prog (Tryd.f3.params.toList ++ Rows.tupleReadsSpec.plain.varTypes Tryd.prog) (ds ++ gs)).all (· ≤ reachBytes) = true := hsz0
  have hval : ∀ (j : Nat) t v, Tryd.f3.params[j]? = some t → args[j]? = some v → Value.okWide Tryd.prog W .any base t v := hval0
  have hW' := hW
  obtain ⟨p, q, hA0, hV, rfl, hfz, hnd⟩ := hW
  have hA : DataW.TrodAll enc Tryd.prog W 0 (fun _ => true) true Tryd.f3.params.toList args.toList ds p := hA0
  rw [Tryd.params3] at hA hval hsz
  obtain ⟨v0, vs0, d0, ds0, p0, q0, hargs, rfl, rfl, h0, r0⟩ := trodAll_cons hA
  obtain ⟨rfl, rfl, rfl⟩ := trodAll_nil r0
  obtain rfl : args = #[v0] := by cases args; simp_all
  obtain ⟨rfl, rfl⟩ := trodVars_none hV
  have z0 := Row.mem_weights_each hsz (j := 0) (t := 9) rfl rfl
  obtain ⟨f0, hf0⟩ := h0
  obtain ⟨s0, k0, y0⟩ := Row.opens_string Tryd.underlying9 H enc W f0 _ _ hf0 z0
  obtain ⟨u0, rfl⟩ := okWide_string Tryd.underlying9 (hval 0 9 v0 rfl rfl)
  obtain rfl : u0 = s0 := by simpa [Kd.string, Kd.scalar, Value.cells] using k0
  clear hA0 hval0 hsz0
  refine (reads_law u0 hmx).mono fun e W' ⟨he, bel⟩ => ?_
  subst he
  exact ⟨_, rfl, Row.post_true laidOut rfl Tryd.underlying4 (by rw [Tryd.params3]; intro t ht; simp at ht; rcases ht with rfl <;> exact ⟨by kernel_rfl, of_decide_eq_true (by kernel_rfl)⟩) rfl ⟨rfl, rfl, rfl⟩ hW' bel⟩
theorem over : Rows.tupleReadsRow.holds Tryd.pinned (OpenSpec.ofChange Rows.tupleReadsSpec) :=
  OpenClaim.holds_of_wide 3 Tryd.f3 rfl rfl rfl rfl rfl rfl rfl ⟨rfl, rfl, rfl, rfl, rfl⟩ rfl rfl rfl rfl rfl (by kernel_rfl) Tryd.func3 (by kernel_rfl)
    (of_decide_eq_true (by kernel_rfl)) (by unfold Func.isWrapper; first | (rw [if_pos (by decide +kernel)]; kernel_rfl) | (rw [if_neg (by decide +kernel)]; exact ⟨rfl, rfl⟩))
    (fun os started H enc _ => lifted os started H enc)
theorem card : Rows.TupleReadsCardSaid :=
  Claim7.holds_tied_plain_at .later [] [.data, .pinned] true (true, "7be912b9683a3bb697de7dba5126dadd782d934560ddb181ec3c8b3461101554") false
    over (fun _ h => by cases h) (by kernel_rfl) (fun _ h => by cases h) tupleReads_row_tie rfl ⟨rfl, rfl⟩ (by kernel_rfl) rfl
    (fun f fn hf hfn => by
      obtain rfl : f = 3 := Option.some.inj ((show Tryd.prog.funcNamed Rows.tupleReadsRow.func = some 3 by kernel_rfl).symm.trans hf) |>.symm
      obtain rfl : fn = Tryd.f3 := (Option.some.inj (Tryd.func3.symm.trans hfn)).symm
      exact ⟨by kernel_rfl, fun j t ht => by
        rw [Tryd.params3] at ht
        have hm : t ∈ [9] := by simpa using Array.mem_of_getElem? ht
        have hall : ([9].all fun u => !Tryd.prog.wantsStandIn u) = true := by kernel_rfl
        exact (show Tryd.prog.wantsStandIn t = false by simpa using List.all_eq_true.1 hall t hm)⟩)
    (by kernel_rfl)
end Go.Proofs.YtdekhhimjnockaaDoor.tupleReads
namespace Go.Proofs.YtdekhhimjnockaaDoor
/-- The card, under a short name, for the claim. -/
theorem tupleReads_card : Rows.TupleReadsCardSaid := tupleReads.card
#print axioms tupleReads_card
end Go.Proofs.YtdekhhimjnockaaDoor

