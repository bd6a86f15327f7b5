/- A meter that nobody made hears nothing: proved for every op. No condition beyond the statement's own. -/
import Derived.Test.YtkpdcacfokcpnaaRows
import Derived.Test.YtkpdcacfokcpnaaRow
import Derived.Test.YtkpdcacfokcpnaaMeterNobody
namespace Go.Proofs.Ytkpdcacfokcpnaa.meterNobody
open Go.ChangeShapes Go.WideShapes Go.ChangeAt Go.RowKit
open Go.ChangeMaps (open_string shut_string)
open Go.Proofs.YtkpdcacfokcpnaaW.PrintWords
open Go.Proofs.Ytkpdcacfokcpnaa.Q Go.Proofs.Ytkpdcacfokcpnaa
set_option linter.unusedVariables false
theorem own : ownKnob Try.prog.godebug = none := by kernel_rfl
theorem laidOut : laidOutB Try.prog = true := by kernel_rfl
theorem open_stats {H : Type} {enc : TypeId × Value → H} {w : World} {fuel : Nat} {cs : List Value} {x : DataW H × List MemPlace} (h : DataW.trod enc Try.prog w 0 (fun _ => true) true fuel 35 cs = some x) (hw : (x.1.weights Try.prog 35).all (· ≤ reachBytes) = true) :
    ∃ (f0 : Int) (f1 : Int), cs = [.int .u64 f0, .int .u64 f1] ∧ (Lit.int .u64 f0).wf = true ∧ (Lit.int .u64 f1).wf = true := by
  obtain ⟨ys, n, _, hx, hlen, hyl, hf⟩ := DataW.trod_struct Try.underlying35 h
  rw [show Try.prog.cellsOf 35 = 2 by kernel_rfl] at hlen
  have hyl' : ys.length = 2 := hyl
  match cs, hlen, ys, hyl' with
  | [c0, c1], _, [y0, y1], _ =>
    have hz : ∀ (j : Nat) (t : TypeId) (d : DataW H), ([24, 24] : List TypeId)[j]? = some t → ([y0.1, y1.1] : List (DataW H))[j]? = some d → (d.weights Try.prog t).all (· ≤ reachBytes) = true := by
      intro j t d ht hd
      rw [hx] at hw
      simp only [DataW.weights, Try.underlying35] at hw
      exact Row.mem_weights_each hw ht hd
    have e0 : DataW.trod enc Try.prog w 0 (fun _ => true) true n 24 [c0] = some y0 := by
      have h' : DataW.trod enc Try.prog w 0 (fun _ => true) true n 24 (([c0, c1].drop 0).take (Try.prog.cellsOf 24)) = ([y0, y1] : List (DataW H × List MemPlace))[0]? := hf 0 _ rfl
      rw [show Try.prog.cellsOf 24 = 1 by kernel_rfl] at h'
      exact h'
    have e1 : DataW.trod enc Try.prog w 0 (fun _ => true) true n 24 [c1] = some y1 := by
      have h' : DataW.trod enc Try.prog w 0 (fun _ => true) true n 24 (([c0, c1].drop 1).take (Try.prog.cellsOf 24)) = ([y0, y1] : List (DataW H × List MemPlace))[1]? := hf 1 _ rfl
      rw [show Try.prog.cellsOf 24 = 1 by kernel_rfl] at h'
      exact h'
    obtain ⟨f0, g0, _, hg0⟩ := DataW.trod_int Try.underlying24 e0
    obtain rfl : c0 = _ := by simpa using g0
    obtain ⟨f1, g1, _, hg1⟩ := DataW.trod_int Try.underlying24 e1
    obtain rfl : c1 = _ := by simpa using g1
    exact ⟨f0, f1, rfl, hg0, hg1⟩
theorem open_op {H : Type} {enc : TypeId × Value → H} {w : World} {fuel : Nat} {cs : List Value} {x : DataW H × List MemPlace} (h : DataW.trod enc Try.prog w 0 (fun _ => true) true fuel 37 cs = some x) (hw : (x.1.weights Try.prog 37).all (· ≤ reachBytes) = true) :
    ∃ (f0 : Int) (f1 : Bool) (f2 : Int) (f3f0 : Int) (f3f1 : Int), cs = [.int .i64 f0, .bool f1, .int .i64 f2, .int .u64 f3f0, .int .u64 f3f1] ∧ (Lit.int .i64 f0).wf = true ∧ (Lit.int .i64 f2).wf = true ∧ (Lit.int .u64 f3f0).wf = true ∧ (Lit.int .u64 f3f1).wf = true := by
  obtain ⟨ys, n, _, hx, hlen, hyl, hf⟩ := DataW.trod_struct Try.underlying37 h
  rw [show Try.prog.cellsOf 37 = 5 by kernel_rfl] at hlen
  have hyl' : ys.length = 4 := hyl
  match cs, hlen, ys, hyl' with
  | [c0, c1, c2, c3, c4], _, [y0, y1, y2, y3], _ =>
    have hz : ∀ (j : Nat) (t : TypeId) (d : DataW H), ([3, 4, 3, 35] : List TypeId)[j]? = some t → ([y0.1, y1.1, y2.1, y3.1] : List (DataW H))[j]? = some d → (d.weights Try.prog t).all (· ≤ reachBytes) = true := by
      intro j t d ht hd
      rw [hx] at hw
      simp only [DataW.weights, Try.underlying37] at hw
      exact Row.mem_weights_each hw ht hd
    have e0 : DataW.trod enc Try.prog w 0 (fun _ => true) true n 3 [c0] = some y0 := by
      have h' : DataW.trod enc Try.prog w 0 (fun _ => true) true n 3 (([c0, c1, c2, c3, c4].drop 0).take (Try.prog.cellsOf 3)) = ([y0, y1, y2, y3] : List (DataW H × List MemPlace))[0]? := hf 0 _ rfl
      rw [show Try.prog.cellsOf 3 = 1 by kernel_rfl] at h'
      exact h'
    have e1 : DataW.trod enc Try.prog w 0 (fun _ => true) true n 4 [c1] = some y1 := by
      have h' : DataW.trod enc Try.prog w 0 (fun _ => true) true n 4 (([c0, c1, c2, c3, c4].drop 1).take (Try.prog.cellsOf 4)) = ([y0, y1, y2, y3] : List (DataW H × List MemPlace))[1]? := hf 1 _ rfl
      rw [show Try.prog.cellsOf 4 = 1 by kernel_rfl] at h'
      exact h'
    have e2 : DataW.trod enc Try.prog w 0 (fun _ => true) true n 3 [c2] = some y2 := by
      have h' : DataW.trod enc Try.prog w 0 (fun _ => true) true n 3 (([c0, c1, c2, c3, c4].drop 2).take (Try.prog.cellsOf 3)) = ([y0, y1, y2, y3] : List (DataW H × List MemPlace))[2]? := hf 2 _ rfl
      rw [show Try.prog.cellsOf 3 = 1 by kernel_rfl] at h'
      exact h'
    have e3 : DataW.trod enc Try.prog w 0 (fun _ => true) true n 35 [c3, c4] = some y3 := by
      have h' : DataW.trod enc Try.prog w 0 (fun _ => true) true n 35 (([c0, c1, c2, c3, c4].drop 3).take (Try.prog.cellsOf 35)) = ([y0, y1, y2, y3] : List (DataW H × List MemPlace))[3]? := hf 3 _ rfl
      rw [show Try.prog.cellsOf 35 = 2 by kernel_rfl] at h'
      exact h'
    obtain ⟨f0, g0, _, hg0⟩ := DataW.trod_int Try.underlying3 e0
    obtain rfl : c0 = _ := by simpa using g0
    obtain ⟨f1, g1, _⟩ := DataW.trod_bool Try.underlying4 e1
    obtain rfl : c1 = _ := by simpa using g1
    obtain ⟨f2, g2, _, hg2⟩ := DataW.trod_int Try.underlying3 e2
    obtain rfl : c2 = _ := by simpa using g2
    obtain ⟨f3f0, f3f1, g3, hgf3f0, hgf3f1⟩ := open_stats e3 (hz 3 35 _ rfl rfl)
    obtain ⟨rfl, rfl⟩ : c3 = .int .u64 f3f0 ∧ c4 = .int .u64 f3f1 := by simpa using g3
    exact ⟨f0, f1, f2, f3f0, f3f1, rfl, hg0, hg2, hgf3f0, hgf3f1⟩
set_option maxRecDepth 100000 in
theorem lifted (os : Os) (started : os.Started) (H : Type) (enc : TypeId × Value → H) :
    ReturnsInHanded {} Try.checked os 6 .any (Rows.meterNobodySpec.pre6 enc Try.prog Try.f6 Rows.meterNobodyRow.domain false) (Rows.meterNobodySpec.post enc Try.prog Try.f6 false true false false) := by
  refine returnsInHanded_of_change_sized (C := Try.checked) own started (by kernel_rfl) Try.func6
    (ChangeSpec.witness6 (enc := enc) (C := Try.checked) false ⟨#[], #[.agg #[.int .i64 0, .bool false, .int .i64 0, .int .u64 0, .int .u64 0]], []⟩ 8 (by kernel_rfl) (by kernel_rfl) (by kernel_rfl) (by kernel_rfl)) ?_
  intro W base args ds gs before hval0 hW hcnd hsz0 _
  have hsz : (DataW.weightsEach Try.prog (Try.f6.params.toList ++ Rows.meterNobodySpec.plain.varTypes Try.prog) (ds ++ gs)).all (· ≤ reachBytes) = true := hsz0
  have hval : ∀ (j : Nat) t v, Try.f6.params[j]? = some t → args[j]? = some v → Value.okWide Try.prog W .any base t v := hval0
  have hW' := hW
  obtain ⟨p, q, hA0, hV, rfl, hfz, hnd⟩ := hW
  have hA : DataW.TrodAll enc Try.prog W 0 (fun _ => true) true Try.f6.params.toList args.toList ds p := hA0
  rw [Try.params6] at hA hval hsz
  obtain ⟨v0, vs0, d0, ds0, p0, q0, hargs, rfl, rfl, h0, r0⟩ := trodAll_cons hA
  obtain ⟨rfl, rfl, rfl⟩ := trodAll_nil r0
  obtain rfl : args = #[v0] := by cases args; simp_all
  obtain ⟨rfl, rfl⟩ := trodVars_none hV
  have z0 := Row.mem_weights_each hsz (j := 0) (t := 37) rfl rfl
  obtain ⟨f0, hf0⟩ := h0
  obtain ⟨cs0, rfl, hsz0⟩ := okWide_struct Try.underlying37 (hval 0 37 v0 rfl rfl)
  obtain ⟨x0_f0, x0_f1, x0_f2, x0_f3f0, x0_f3f1, k0, hgx0_f0, hgx0_f2, hgx0_f3f0, hgx0_f3f1⟩ := open_op hf0 z0
  obtain rfl : cs0 = #[.int .i64 x0_f0, .bool x0_f1, .int .i64 x0_f2, .int .u64 x0_f3f0, .int .u64 x0_f3f1] := by apply Array.ext'; simpa [Value.cells] using k0
  clear hA0 hval0 hsz0
  refine (nobody_calls x0_f0 x0_f1 x0_f2 x0_f3f0 x0_f3f1 W).mono fun e W' ⟨he, bel⟩ => ?_
  subst he
  exact ⟨_, rfl, Row.post_true laidOut rfl Try.underlying4 (by rw [Try.params6]; intro t ht; simp at ht; rcases ht with rfl <;> exact ⟨by kernel_rfl, of_decide_eq_true (by kernel_rfl)⟩) rfl ⟨rfl, rfl, rfl⟩ hW' bel⟩
theorem over : Rows.meterNobodyRow.holds Try.pinned (OpenSpec.ofChange Rows.meterNobodySpec) :=
  OpenClaim.holds_of_wide 6 Try.f6 rfl rfl rfl rfl rfl rfl rfl ⟨rfl, rfl, rfl, rfl, rfl⟩ rfl rfl rfl rfl rfl (by kernel_rfl) Try.func6 (by kernel_rfl)
    (of_decide_eq_true (by kernel_rfl)) (by unfold Func.isWrapper; first | (rw [if_pos (by decide +kernel)]; kernel_rfl) | (rw [if_neg (by decide +kernel)]; exact ⟨rfl, rfl⟩))
    (fun os started H enc _ => lifted os started H enc)
theorem proved : Rows.MeterNobodySaid := over
end Go.Proofs.Ytkpdcacfokcpnaa.meterNobody
namespace Go.Proofs.Ytkpdcacfokcpnaa
/-- The row, under a short name, for the claim. -/
theorem meterNobody_holds : Rows.MeterNobodySaid := meterNobody.proved
#print axioms meterNobody_holds
end Go.Proofs.Ytkpdcacfokcpnaa

