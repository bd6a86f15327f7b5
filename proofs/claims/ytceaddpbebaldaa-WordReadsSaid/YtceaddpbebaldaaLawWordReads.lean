/- What a reader of any bytes tells, whatever is asked, and by what it is spoilt: proved for all bytes and all lists of questions, at any size. No condition beyond the statement's own. -/
import Derived.Test.YtceaddpbebaldaaRows
import Derived.Test.YtceaddpbebaldaaRow
import Derived.Test.YtceaddpbebaldaaWordReads2
namespace Go.Proofs.Ytceaddpbebaldaa.wordReads
open Go.ChangeShapes Go.WideShapes Go.ChangeAt Go.RowKit
open Go.ChangeMaps (open_string shut_string)
open Go.Proofs.YtceaddpbebaldaaW.PrintWords
open Go.Proofs.Ytceaddpbebaldaa.Word
set_option linter.unusedVariables false
theorem own : ownKnob Try.prog.godebug = none := by kernel_rfl
theorem laidOut : laidOutB Try.prog = true := by kernel_rfl
theorem open_act {H : Type} {enc : TypeId × Value → H} {w : World} {fuel : Nat} {cs : List Value} {x : DataW H × List MemPlace} (h : DataW.trod enc Try.prog w 0 (fun _ => true) true fuel 43 cs = some x) (hw : (x.1.weights Try.prog 43).all (· ≤ reachBytes) = true) :
    ∃ (f0 : Int) (f1 : Int) (f2 : Int), cs = [.int .i64 f0, .int .i64 f1, .int .i64 f2] ∧ (Lit.int .i64 f0).wf = true ∧ (Lit.int .i64 f1).wf = true ∧ (Lit.int .i64 f2).wf = true := by
  obtain ⟨ys, n, _, hx, hlen, hyl, hf⟩ := DataW.trod_struct Try.underlying43 h
  rw [show Try.prog.cellsOf 43 = 3 by kernel_rfl] at hlen
  have hyl' : ys.length = 3 := hyl
  match cs, hlen, ys, hyl' with
  | [c0, c1, c2], _, [y0, y1, y2], _ =>
    have hz : ∀ (j : Nat) (t : TypeId) (d : DataW H), ([3, 3, 3] : List TypeId)[j]? = some t → ([y0.1, y1.1, y2.1] : List (DataW H))[j]? = some d → (d.weights Try.prog t).all (· ≤ reachBytes) = true := by
      intro j t d ht hd
      rw [hx] at hw
      simp only [DataW.weights, Try.underlying43] at hw
      exact Row.mem_weights_each hw ht hd
    have e0 : DataW.trod enc Try.prog w 0 (fun _ => true) true n 3 [c0] = some y0 := by
      have h' : DataW.trod enc Try.prog w 0 (fun _ => true) true n 3 (([c0, c1, c2].drop 0).take (Try.prog.cellsOf 3)) = ([y0, y1, y2] : List (DataW H × List MemPlace))[0]? := hf 0 _ rfl
      rw [show Try.prog.cellsOf 3 = 1 by kernel_rfl] at h'
      exact h'
    have e1 : DataW.trod enc Try.prog w 0 (fun _ => true) true n 3 [c1] = some y1 := by
      have h' : DataW.trod enc Try.prog w 0 (fun _ => true) true n 3 (([c0, c1, c2].drop 1).take (Try.prog.cellsOf 3)) = ([y0, y1, y2] : List (DataW H × List MemPlace))[1]? := hf 1 _ rfl
      rw [show Try.prog.cellsOf 3 = 1 by kernel_rfl] at h'
      exact h'
    have e2 : DataW.trod enc Try.prog w 0 (fun _ => true) true n 3 [c2] = some y2 := by
      have h' : DataW.trod enc Try.prog w 0 (fun _ => true) true n 3 (([c0, c1, c2].drop 2).take (Try.prog.cellsOf 3)) = ([y0, y1, y2] : List (DataW H × List MemPlace))[2]? := hf 2 _ rfl
      rw [show Try.prog.cellsOf 3 = 1 by kernel_rfl] at h'
      exact h'
    obtain ⟨f0, g0, _, hg0⟩ := DataW.trod_int Try.underlying3 e0
    obtain rfl : c0 = _ := by simpa using g0
    obtain ⟨f1, g1, _, hg1⟩ := DataW.trod_int Try.underlying3 e1
    obtain rfl : c1 = _ := by simpa using g1
    obtain ⟨f2, g2, _, hg2⟩ := DataW.trod_int Try.underlying3 e2
    obtain rfl : c2 = _ := by simpa using g2
    exact ⟨f0, f1, f2, rfl, hg0, hg1, hg2⟩
theorem opens_act : Row.Opens Try.prog 43 kAct (fun p => (Lit.int .i64 p.1).wf = true) := by
  intro H enc w fuel cs x h hw
  obtain ⟨f0, f1, f2, rfl, g0, g1, g2⟩ := open_act h hw
  exact ⟨(f0, f1, f2), ⟨[.int .i64 f0], [.int .i64 f1, .int .i64 f2], rfl, rfl, ⟨[.int .i64 f1], [.int .i64 f2], rfl, rfl, rfl⟩⟩, g0⟩
theorem by_of {l : List Int} (h : ∀ x ∈ l, (Lit.int .u8 x).wf = true) : Byte l := fun c hc => by
  have := h c hc
  simpa [Lit.wf, IntKind.min, IntKind.max, IntKind.signed, IntKind.bits] using this
set_option maxRecDepth 100000 in
theorem lifted (os : Os) (started : os.Started) (H : Type) (enc : TypeId × Value → H) :
    ReturnsInHanded {} Try.checked os 6 .any (Rows.wordReadsSpec.pre6 enc Try.prog Try.f6 Rows.wordReadsRow.domain false) (Rows.wordReadsSpec.post enc Try.prog Try.f6 false true false false) := by
  refine returnsInHanded_of_change_sized (C := Try.checked) own started (by kernel_rfl) Try.func6
    (ChangeSpec.witness6 (enc := enc) (C := Try.checked) false ⟨#[], #[.slice none 0 0, .slice none 0 0], []⟩ 8 (by kernel_rfl) (by kernel_rfl) (by kernel_rfl) (by kernel_rfl)) ?_
  intro W base args ds gs before hval0 hW hcnd hsz0 _
  have hsz : (DataW.weightsEach Try.prog (Try.f6.params.toList ++ Rows.wordReadsSpec.plain.varTypes Try.prog) (ds ++ gs)).all (· ≤ reachBytes) = true := hsz0
  have hval : ∀ (j : Nat) t v, Try.f6.params[j]? = some t → args[j]? = some v → Value.okWide Try.prog W .any base t v := hval0
  have hW' := hW
  obtain ⟨p, q, hA0, hV, rfl, hfz, hnd⟩ := hW
  have hA : DataW.TrodAll enc Try.prog W 0 (fun _ => true) true Try.f6.params.toList args.toList ds p := hA0
  rw [Try.params6] at hA hval hsz
  obtain ⟨v0, vs0, d0, ds0, p0, q0, hargs, rfl, rfl, h0, r0⟩ := trodAll_cons hA
  obtain ⟨v1, vs1, d1, ds1, p1, q1, rfl, rfl, rfl, h1, r1⟩ := trodAll_cons r0
  obtain ⟨rfl, rfl, rfl⟩ := trodAll_nil r1
  obtain rfl : args = #[v0, v1] := by cases args; simp_all
  obtain ⟨rfl, rfl⟩ := trodVars_none hV
  have z0 := Row.mem_weights_each hsz (j := 0) (t := 22) rfl rfl
  obtain ⟨f0, hf0⟩ := h0
  obtain ⟨x0, k0, g0⟩ := (Row.opens_slice (0 : Int) Try.underlying22 (by kernel_rfl) (by kernel_rfl : Try.prog.bytesOf 5 = 1) (Row.opens_int Try.underlying5)) H enc W f0 _ _ hf0 z0
  obtain ⟨A0, l0, c0, rfl⟩ := okWide_slice Try.underlying22 (hval 0 22 v0 rfl rfl)
  obtain ⟨B0, e0, k0, hc0, hC0⟩ := k0
  obtain ⟨rfl, rfl, rfl⟩ : A0 = B0 ∧ l0 = x0.length ∧ c0 = e0 := by simpa [Value.cells] using k0
  have z1 := Row.mem_weights_each hsz (j := 1) (t := 39) rfl rfl
  obtain ⟨f1, hf1⟩ := h1
  obtain ⟨x1, k1, g1⟩ := (Row.opens_slice ((0, 0, 0) : Int × Int × Int) Try.underlying39 (by kernel_rfl) (by kernel_rfl : Try.prog.bytesOf 43 = 24) opens_act) H enc W f1 _ _ hf1 z1
  obtain ⟨A1, l1, c1, rfl⟩ := okWide_slice Try.underlying39 (hval 1 39 v1 rfl rfl)
  obtain ⟨B1, e1, k1, hc1, hC1⟩ := k1
  obtain ⟨rfl, rfl, rfl⟩ : A1 = B1 ∧ l1 = x1.length ∧ c1 = e1 := by simpa [Value.cells] using k1
  clear hA0 hval0 hsz0
  have gl : x0.length ≤ 140737488351232 := by have := g0.1; omega
  refine (reads_calls ⟨A0, c0, rfl, hc0, hC0⟩ gl (by_of g0.2) A1 c1 x1 hC1 hc1).mono fun e W' ⟨he, bel⟩ => ?_
  subst he
  exact ⟨_, rfl, Row.post_true laidOut rfl Try.underlying4 (by rw [Try.params6]; intro t ht; simp at ht; rcases ht with rfl | rfl <;> exact ⟨by kernel_rfl, of_decide_eq_true (by kernel_rfl)⟩) rfl ⟨rfl, rfl, rfl⟩ hW' bel⟩
theorem over : Rows.wordReadsRow.holds Try.pinned (OpenSpec.ofChange Rows.wordReadsSpec) :=
  OpenClaim.holds_of_wide 6 Try.f6 rfl rfl rfl rfl rfl rfl rfl ⟨rfl, rfl, rfl, rfl, rfl⟩ rfl rfl rfl rfl rfl (by kernel_rfl) Try.func6 (by kernel_rfl)
    (of_decide_eq_true (by kernel_rfl)) (by unfold Func.isWrapper; first | (rw [if_pos (by decide +kernel)]; kernel_rfl) | (rw [if_neg (by decide +kernel)]; exact ⟨rfl, rfl⟩))
    (fun os started H enc _ => lifted os started H enc)
theorem proved : Rows.WordReadsSaid := over
end Go.Proofs.Ytceaddpbebaldaa.wordReads
namespace Go.Proofs.Ytceaddpbebaldaa
/-- The row, under a short name, for the claim. -/
theorem wordReads_holds : Rows.WordReadsSaid := wordReads.proved
#print axioms wordReads_holds
end Go.Proofs.Ytceaddpbebaldaa

