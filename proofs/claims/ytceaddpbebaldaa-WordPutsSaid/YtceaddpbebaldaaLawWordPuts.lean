/- The bytes of any number of any width, behind any bytes, and whether it fits: proved for all bytes, widths and numbers, at any size. No condition beyond the statement's own. -/
import Derived.Test.YtceaddpbebaldaaRows
import Derived.Test.YtceaddpbebaldaaRow
import Derived.Test.YtceaddpbebaldaaWordPuts
namespace Go.Proofs.Ytceaddpbebaldaa.wordPuts
open Go.ChangeShapes Go.WideShapes Go.ChangeAt Go.RowKit
open Go.ChangeMaps (open_string shut_string)
open Go.Proofs.YtceaddpbebaldaaW.PrintWords
open Go.Proofs.Ytceaddpbebaldaa.Word
set_option linter.unusedVariables false
theorem own : ownKnob Try.prog.godebug = none := by kernel_rfl
theorem laidOut : laidOutB Try.prog = true := by kernel_rfl

set_option maxRecDepth 100000 in
theorem lifted (os : Os) (started : os.Started) (H : Type) (enc : TypeId × Value → H) :
    ReturnsInHanded {} Try.checked os 3 .any (Rows.wordPutsSpec.pre6 enc Try.prog Try.f3 Rows.wordPutsRow.domain false) (Rows.wordPutsSpec.post enc Try.prog Try.f3 false true false false) := by
  refine returnsInHanded_of_change_sized (C := Try.checked) own started (by kernel_rfl) Try.func3
    (ChangeSpec.witness6 (enc := enc) (C := Try.checked) false ⟨#[], #[.slice none 0 0, .int .i64 0, .int .u64 0], []⟩ 8 (by kernel_rfl) (by kernel_rfl) (by kernel_rfl) (by kernel_rfl)) ?_
  intro W base args ds gs before hval0 hW hcnd hsz0 _
  have hsz : (DataW.weightsEach Try.prog (Try.f3.params.toList ++ Rows.wordPutsSpec.plain.varTypes Try.prog) (ds ++ gs)).all (· ≤ reachBytes) = true := hsz0
  have hval : ∀ (j : Nat) t v, Try.f3.params[j]? = some t → args[j]? = some v → Value.okWide Try.prog W .any base t v := hval0
  have hW' := hW
  obtain ⟨p, q, hA0, hV, rfl, hfz, hnd⟩ := hW
  have hA : DataW.TrodAll enc Try.prog W 0 (fun _ => true) true Try.f3.params.toList args.toList ds p := hA0
  rw [Try.params3] at hA hval hsz
  obtain ⟨v0, vs0, d0, ds0, p0, q0, hargs, rfl, rfl, h0, r0⟩ := trodAll_cons hA
  obtain ⟨v1, vs1, d1, ds1, p1, q1, rfl, rfl, rfl, h1, r1⟩ := trodAll_cons r0
  obtain ⟨v2, vs2, d2, ds2, p2, q2, rfl, rfl, rfl, h2, r2⟩ := trodAll_cons r1
  obtain ⟨rfl, rfl, rfl⟩ := trodAll_nil r2
  obtain rfl : args = #[v0, v1, v2] := by cases args; simp_all
  obtain ⟨rfl, rfl⟩ := trodVars_none hV
  have z0 := Row.mem_weights_each hsz (j := 0) (t := 22) rfl rfl
  obtain ⟨f0, hf0⟩ := h0
  obtain ⟨x0, k0, g0⟩ := (Row.opens_slice (0 : Int) Try.underlying22 (by kernel_rfl) (by kernel_rfl : Try.prog.bytesOf 5 = 1) (Row.opens_int Try.underlying5)) H enc W f0 _ _ hf0 z0
  obtain ⟨A0, l0, c0, rfl⟩ := okWide_slice Try.underlying22 (hval 0 22 v0 rfl rfl)
  obtain ⟨B0, e0, k0, hc0, hC0⟩ := k0
  obtain ⟨rfl, rfl, rfl⟩ : A0 = B0 ∧ l0 = x0.length ∧ c0 = e0 := by simpa [Value.cells] using k0
  obtain ⟨a1, rfl, rfl, rfl, w1⟩ := open_int Try.underlying3 (hval 1 3 v1 rfl rfl) h1
  obtain ⟨a2, rfl, rfl, rfl, w2⟩ := open_int Try.underlying23 (hval 2 23 v2 rfl rfl) h2
  clear hA0 hval0 hsz0
  have wb : 0 ≤ a2 ∧ a2 ≤ 18446744073709551615 := by simpa [Lit.wf, IntKind.min, IntKind.max, IntKind.signed, IntKind.bits] using w2
  have gl : x0.length ≤ 140737488351232 := by have := g0.1; omega
  refine (puts_calls ⟨_, _, rfl, hc0, hC0⟩ gl a1 a2 wb.1 (by omega)).mono fun e W' ⟨he, bel⟩ => ?_
  subst he
  exact ⟨_, rfl, Row.post_true laidOut rfl Try.underlying4 (by rw [Try.params3]; intro t ht; simp at ht; rcases ht with rfl | rfl | rfl <;> exact ⟨by kernel_rfl, of_decide_eq_true (by kernel_rfl)⟩) rfl ⟨rfl, rfl, rfl⟩ hW' bel⟩
theorem over : Rows.wordPutsRow.holds Try.pinned (OpenSpec.ofChange Rows.wordPutsSpec) :=
  OpenClaim.holds_of_wide 3 Try.f3 rfl rfl rfl rfl rfl rfl rfl ⟨rfl, rfl, rfl, rfl, rfl⟩ rfl rfl rfl rfl rfl (by kernel_rfl) Try.func3 (by kernel_rfl)
    (of_decide_eq_true (by kernel_rfl)) (by unfold Func.isWrapper; first | (rw [if_pos (by decide +kernel)]; kernel_rfl) | (rw [if_neg (by decide +kernel)]; exact ⟨rfl, rfl⟩))
    (fun os started H enc _ => lifted os started H enc)
theorem proved : Rows.WordPutsSaid := over
end Go.Proofs.Ytceaddpbebaldaa.wordPuts
namespace Go.Proofs.Ytceaddpbebaldaa
/-- The row, under a short name, for the claim. -/
theorem wordPuts_holds : Rows.WordPutsSaid := wordPuts.proved
#print axioms wordPuts_holds
end Go.Proofs.Ytceaddpbebaldaa

