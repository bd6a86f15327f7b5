/- Any numbers, one behind the other, of any widths in which they fit, are read as they were: proved for all lists of numbers and widths, at any size. No condition beyond the statement's own. -/
import Derived.Test.YtceaddpbebaldaaRows
import Derived.Test.YtceaddpbebaldaaRow
import Derived.Test.YtceaddpbebaldaaWordBack
namespace Go.Proofs.Ytceaddpbebaldaa.wordBack
open Go.ChangeShapes Go.WideShapes Go.ChangeAt Go.RowKit
open Go.ChangeMaps (open_string shut_string)
open Go.Proofs.YtceaddpbebaldaaW.PrintWords
open Go.Proofs.Ytceaddpbebaldaa.Word
set_option linter.unusedVariables false
theorem own : ownKnob Try.prog.godebug = none := by kernel_rfl
theorem laidOut : laidOutB Try.prog = true := by kernel_rfl
theorem by64_of {l : List Int} (h : ∀ x ∈ l, (Lit.int .u64 x).wf = true) : ∀ x ∈ l, 0 ≤ x ∧ x < 18446744073709551616 := fun c hc => by
  have := h c hc
  have : 0 ≤ c ∧ c ≤ 18446744073709551615 := by simpa [Lit.wf, IntKind.min, IntKind.max, IntKind.signed, IntKind.bits] using this
  omega
theorem by_of {l : List Int} (h : ∀ x ∈ l, (Lit.int .u8 x).wf = true) : ∀ x ∈ l, 0 ≤ x ∧ x ≤ 255 := fun c hc => by
  have := h c hc
  simpa [Lit.wf, IntKind.min, IntKind.max, IntKind.signed, IntKind.bits] using this
set_option maxRecDepth 100000 in
theorem lifted (os : Os) (started : os.Started) (H : Type) (enc : TypeId × Value → H) :
    ReturnsInHanded {} Try.checked os 5 .any (Rows.wordBackSpec.pre6 enc Try.prog Try.f5 Rows.wordBackRow.domain false) (Rows.wordBackSpec.post enc Try.prog Try.f5 false true false false) := by
  refine returnsInHanded_of_change_sized (C := Try.checked) own started (by kernel_rfl) Try.func5
    (ChangeSpec.witness6 (enc := enc) (C := Try.checked) false ⟨#[], #[.slice none 0 0, .slice none 0 0], []⟩ 8 (by kernel_rfl) (by kernel_rfl) (by kernel_rfl) (by kernel_rfl)) ?_
  intro W base args ds gs before hval0 hW hcnd hsz0 _
  have hsz : (DataW.weightsEach Try.prog (Try.f5.params.toList ++ Rows.wordBackSpec.plain.varTypes Try.prog) (ds ++ gs)).all (· ≤ reachBytes) = true := hsz0
  have hval : ∀ (j : Nat) t v, Try.f5.params[j]? = some t → args[j]? = some v → Value.okWide Try.prog W .any base t v := hval0
  have hW' := hW
  obtain ⟨p, q, hA0, hV, rfl, hfz, hnd⟩ := hW
  have hA : DataW.TrodAll enc Try.prog W 0 (fun _ => true) true Try.f5.params.toList args.toList ds p := hA0
  rw [Try.params5] at hA hval hsz
  obtain ⟨v0, vs0, d0, ds0, p0, q0, hargs, rfl, rfl, h0, r0⟩ := trodAll_cons hA
  obtain ⟨v1, vs1, d1, ds1, p1, q1, rfl, rfl, rfl, h1, r1⟩ := trodAll_cons r0
  obtain ⟨rfl, rfl, rfl⟩ := trodAll_nil r1
  obtain rfl : args = #[v0, v1] := by cases args; simp_all
  obtain ⟨rfl, rfl⟩ := trodVars_none hV
  have z0 := Row.mem_weights_each hsz (j := 0) (t := 32) rfl rfl
  obtain ⟨f0, hf0⟩ := h0
  obtain ⟨x0, k0, g0⟩ := (Row.opens_slice (0 : Int) Try.underlying32 (by kernel_rfl) (by kernel_rfl : Try.prog.bytesOf 23 = 8) (Row.opens_int Try.underlying23)) H enc W f0 _ _ hf0 z0
  obtain ⟨A0, l0, c0, rfl⟩ := okWide_slice Try.underlying32 (hval 0 32 v0 rfl rfl)
  obtain ⟨B0, e0, k0, hc0, hC0⟩ := k0
  obtain ⟨rfl, rfl, rfl⟩ : A0 = B0 ∧ l0 = x0.length ∧ c0 = e0 := by simpa [Value.cells] using k0
  have z1 := Row.mem_weights_each hsz (j := 1) (t := 22) rfl rfl
  obtain ⟨f1, hf1⟩ := h1
  obtain ⟨x1, k1, g1⟩ := (Row.opens_slice (0 : Int) Try.underlying22 (by kernel_rfl) (by kernel_rfl : Try.prog.bytesOf 5 = 1) (Row.opens_int Try.underlying5)) H enc W f1 _ _ hf1 z1
  obtain ⟨A1, l1, c1, rfl⟩ := okWide_slice Try.underlying22 (hval 1 22 v1 rfl rfl)
  obtain ⟨B1, e1, k1, hc1, hC1⟩ := k1
  obtain ⟨rfl, rfl, rfl⟩ : A1 = B1 ∧ l1 = x1.length ∧ c1 = e1 := by simpa [Value.cells] using k1
  clear hA0 hval0 hsz0
  refine (back_calls A0 c0 x0 A1 c1 x1 W hC0 hc0 hC1 hc1 (by64_of g0.2) (by_of g1.2)).mono fun e W' ⟨he, bel⟩ => ?_
  subst he
  exact ⟨_, rfl, Row.post_true laidOut rfl Try.underlying4 (by rw [Try.params5]; intro t ht; simp at ht; rcases ht with rfl | rfl <;> exact ⟨by kernel_rfl, of_decide_eq_true (by kernel_rfl)⟩) rfl ⟨rfl, rfl, rfl⟩ hW' bel⟩
theorem over : Rows.wordBackRow.holds Try.pinned (OpenSpec.ofChange Rows.wordBackSpec) :=
  OpenClaim.holds_of_wide 5 Try.f5 rfl rfl rfl rfl rfl rfl rfl ⟨rfl, rfl, rfl, rfl, rfl⟩ rfl rfl rfl rfl rfl (by kernel_rfl) Try.func5 (by kernel_rfl)
    (of_decide_eq_true (by kernel_rfl)) (by unfold Func.isWrapper; first | (rw [if_pos (by decide +kernel)]; kernel_rfl) | (rw [if_neg (by decide +kernel)]; exact ⟨rfl, rfl⟩))
    (fun os started H enc _ => lifted os started H enc)
theorem proved : Rows.WordBackSaid := over
end Go.Proofs.Ytceaddpbebaldaa.wordBack
namespace Go.Proofs.Ytceaddpbebaldaa
/-- The row, under a short name, for the claim. -/
theorem wordBack_holds : Rows.WordBackSaid := wordBack.proved
#print axioms wordBack_holds
end Go.Proofs.Ytceaddpbebaldaa

