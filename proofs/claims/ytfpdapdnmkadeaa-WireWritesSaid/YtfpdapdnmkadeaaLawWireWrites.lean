/- A script's bytes: written as the reference has them where every op may be written, none where not, and read back as the same script: proved for every script, at any size. No condition beyond the statement's own. -/
import Derived.Test.YtfpdapdnmkadeaaRows
import Derived.Test.YtfpdapdnmkadeaaRow
import Derived.Test.YtfpdapdnmkadeaaWireWr
namespace Go.Proofs.Ytfpdapdnmkadeaa.wireWrites
open Go.ChangeShapes Go.WideShapes Go.ChangeAt Go.RowKit
open Go.ChangeMaps (open_string shut_string)
open Go.Proofs.YtfpdapdnmkadeaaW.PrintWords
open Go.Proofs.Ytfpdapdnmkadeaa.Wire Go.Proofs.Ytfpdapdnmkadeaa.Word Go.Proofs.Ytfpdapdnmkadeaa.O
set_option linter.unusedVariables false
theorem own : ownKnob Try.prog.godebug = none := by kernel_rfl
theorem laidOut : laidOutB Try.prog = true := by kernel_rfl
theorem open_op {H : Type} {enc : TypeId × Value → H} {w : World} {fuel : Nat} {cs : List Value} {x : DataW H × List MemPlace} (h : DataW.trod enc Try.prog w 0 (fun _ => true) true fuel 52 cs = some x) (hw : (x.1.weights Try.prog 52).all (· ≤ reachBytes) = true) :
    ∃ (f0 : Int) (f1 : ByteArray) (f2 : ByteArray) (f3 : Int), cs = [.int .i64 f0, .string f1, .string f2, .int .i64 f3] ∧ (Lit.int .i64 f0).wf = true ∧ f1.size ≤ 140737488351232 ∧ f2.size ≤ 140737488351232 ∧ (Lit.int .i64 f3).wf = true := by
  obtain ⟨ys, n, _, hx, hlen, hyl, hf⟩ := DataW.trod_struct Try.underlying52 h
  rw [show Try.prog.cellsOf 52 = 4 by kernel_rfl] at hlen
  have hyl' : ys.length = 4 := hyl
  match cs, hlen, ys, hyl' with
  | [c0, c1, c2, c3], _, [y0, y1, y2, y3], _ =>
    have hz : ∀ (j : Nat) (t : TypeId) (d : DataW H), ([3, 9, 9, 3] : List TypeId)[j]? = some t → ([y0.1, y1.1, y2.1, y3.1] : List (DataW H))[j]? = some d → (d.weights Try.prog t).all (· ≤ reachBytes) = true := by
      intro j t d ht hd
      rw [hx] at hw
      simp only [DataW.weights, Try.underlying52] at hw
      exact Row.mem_weights_each hw ht hd
    have e0 : DataW.trod enc Try.prog w 0 (fun _ => true) true n 3 [c0] = some y0 := by
      have h' : DataW.trod enc Try.prog w 0 (fun _ => true) true n 3 (([c0, c1, c2, c3].drop 0).take (Try.prog.cellsOf 3)) = ([y0, y1, y2, y3] : List (DataW H × List MemPlace))[0]? := hf 0 _ rfl
      rw [show Try.prog.cellsOf 3 = 1 by kernel_rfl] at h'
      exact h'
    have e1 : DataW.trod enc Try.prog w 0 (fun _ => true) true n 9 [c1] = some y1 := by
      have h' : DataW.trod enc Try.prog w 0 (fun _ => true) true n 9 (([c0, c1, c2, c3].drop 1).take (Try.prog.cellsOf 9)) = ([y0, y1, y2, y3] : List (DataW H × List MemPlace))[1]? := hf 1 _ rfl
      rw [show Try.prog.cellsOf 9 = 1 by kernel_rfl] at h'
      exact h'
    have e2 : DataW.trod enc Try.prog w 0 (fun _ => true) true n 9 [c2] = some y2 := by
      have h' : DataW.trod enc Try.prog w 0 (fun _ => true) true n 9 (([c0, c1, c2, c3].drop 2).take (Try.prog.cellsOf 9)) = ([y0, y1, y2, y3] : List (DataW H × List MemPlace))[2]? := hf 2 _ rfl
      rw [show Try.prog.cellsOf 9 = 1 by kernel_rfl] at h'
      exact h'
    have e3 : DataW.trod enc Try.prog w 0 (fun _ => true) true n 3 [c3] = some y3 := by
      have h' : DataW.trod enc Try.prog w 0 (fun _ => true) true n 3 (([c0, c1, c2, c3].drop 3).take (Try.prog.cellsOf 3)) = ([y0, y1, y2, y3] : List (DataW H × List MemPlace))[3]? := hf 3 _ rfl
      rw [show Try.prog.cellsOf 3 = 1 by kernel_rfl] at h'
      exact h'
    obtain ⟨f0, g0, _, hg0⟩ := DataW.trod_int Try.underlying3 e0
    obtain rfl : c0 = _ := by simpa using g0
    obtain ⟨f1, kk1, hg1⟩ := Row.opens_string Try.underlying9 H enc w n _ _ e1 (hz 1 9 _ rfl rfl)
    obtain rfl : c1 = .string f1 := by simpa [Kd.string, Kd.scalar] using kk1
    obtain ⟨f2, kk2, hg2⟩ := Row.opens_string Try.underlying9 H enc w n _ _ e2 (hz 2 9 _ rfl rfl)
    obtain rfl : c2 = .string f2 := by simpa [Kd.string, Kd.scalar] using kk2
    obtain ⟨f3, g3, _, hg3⟩ := DataW.trod_int Try.underlying3 e3
    obtain rfl : c3 = _ := by simpa using g3
    exact ⟨f0, f1, f2, f3, rfl, hg0, hg1, hg2, hg3⟩
theorem opens_op : Row.Opens Try.prog 52 k52 (fun p => True) := by
  intro H enc w fuel cs x h hw
  obtain ⟨f0, f1, f2, f3, rfl, g0, g1, g2, g3⟩ := open_op h hw
  exact ⟨⟨f0, f1, f2, f3⟩, k52_mk _ _, trivial⟩

set_option maxRecDepth 100000 in
theorem lifted (os : Os) (started : os.Started) (H : Type) (enc : TypeId × Value → H) :
    ReturnsInHanded {} Try.checked os 5 .any (Rows.wireWritesSpec.pre6 enc Try.prog Try.f5 Rows.wireWritesRow.domain false) (Rows.wireWritesSpec.post enc Try.prog Try.f5 false true false false) := by
  refine returnsInHanded_of_change_sized (C := Try.checked) own started (by kernel_rfl) Try.func5
    (ChangeSpec.witness6 (enc := enc) (C := Try.checked) false ⟨#[], #[.slice none 0 0], []⟩ 8 (by kernel_rfl) (by kernel_rfl) (by kernel_rfl) (by kernel_rfl)) ?_
  intro W base args ds gs before hval0 hW hcnd hsz0 _
  have hsz : (DataW.weightsEach Try.prog (Try.f5.params.toList ++ Rows.wireWritesSpec.plain.varTypes Try.prog) (ds ++ gs)).all (· ≤ reachBytes) = true := hsz0
  have hval : ∀ (j : Nat) t v, Try.f5.params[j]? = some t → args[j]? = some v → Value.okWide Try.prog W .any base t v := hval0
  have hW' := hW
  obtain ⟨p, q, hA0, hV, rfl, hfz, hnd⟩ := hW
  have hA : DataW.TrodAll enc Try.prog W 0 (fun _ => true) true Try.f5.params.toList args.toList ds p := hA0
  rw [Try.params5] at hA hval hsz
  obtain ⟨v0, vs0, d0, ds0, p0, q0, hargs, rfl, rfl, h0, r0⟩ := trodAll_cons hA
  obtain ⟨rfl, rfl, rfl⟩ := trodAll_nil r0
  obtain rfl : args = #[v0] := by cases args; simp_all
  obtain ⟨rfl, rfl⟩ := trodVars_none hV
  have z0 := Row.mem_weights_each hsz (j := 0) (t := 42) rfl rfl
  obtain ⟨f0, hf0⟩ := h0
  obtain ⟨x0, k0, g0⟩ := (Row.opens_slice z52 Try.underlying42 (by kernel_rfl) (by kernel_rfl : Try.prog.bytesOf 52 = 48) opens_op) H enc W f0 _ _ hf0 z0
  obtain ⟨A0, l0, c0, rfl⟩ := okWide_slice Try.underlying42 (hval 0 42 v0 rfl rfl)
  obtain ⟨B0, e0, k0, hc0, hC0⟩ := k0
  obtain ⟨rfl, rfl, rfl⟩ : A0 = B0 ∧ l0 = x0.length ∧ c0 = e0 := by simpa [Value.cells] using k0
  clear hA0 hval0 hsz0
  refine (writes_calls A0 c0 x0 hC0 hc0 g0.1).mono fun e W' ⟨he, bel⟩ => ?_
  subst he
  exact ⟨_, rfl, Row.post_true laidOut rfl Try.underlying4 (by rw [Try.params5]; intro t ht; simp at ht; rcases ht with rfl <;> exact ⟨by kernel_rfl, of_decide_eq_true (by kernel_rfl)⟩) rfl ⟨rfl, rfl, rfl⟩ hW' bel⟩
theorem over : Rows.wireWritesRow.holds Try.pinned (OpenSpec.ofChange Rows.wireWritesSpec) :=
  OpenClaim.holds_of_wide 5 Try.f5 rfl rfl rfl rfl rfl rfl rfl ⟨rfl, rfl, rfl, rfl, rfl⟩ rfl rfl rfl rfl rfl (by kernel_rfl) Try.func5 (by kernel_rfl)
    (of_decide_eq_true (by kernel_rfl)) (by unfold Func.isWrapper; first | (rw [if_pos (by decide +kernel)]; kernel_rfl) | (rw [if_neg (by decide +kernel)]; exact ⟨rfl, rfl⟩))
    (fun os started H enc _ => lifted os started H enc)
theorem proved : Rows.WireWritesSaid := over
end Go.Proofs.Ytfpdapdnmkadeaa.wireWrites
namespace Go.Proofs.Ytfpdapdnmkadeaa
/-- The row, under a short name, for the claim. -/
theorem wireWrites_holds : Rows.WireWritesSaid := wireWrites.proved
#print axioms wireWrites_holds
end Go.Proofs.Ytfpdapdnmkadeaa

