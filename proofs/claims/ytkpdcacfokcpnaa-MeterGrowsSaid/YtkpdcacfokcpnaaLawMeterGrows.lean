/- With each op that is heard the bound, and what ops cost together, are no less than ahead of it: proved for all settings and lists of ops, at any size. No condition beyond the statement's own. -/
import Derived.Test.YtkpdcacfokcpnaaRows
import Derived.Test.YtkpdcacfokcpnaaRow
import Derived.Test.YtkpdcacfokcpnaaMeterGrows
namespace Go.Proofs.Ytkpdcacfokcpnaa.meterGrows
open Go.ChangeShapes Go.WideShapes Go.ChangeAt Go.RowKit
open Go.ChangeMaps (open_string shut_string)
open Go.Proofs.YtkpdcacfokcpnaaW.PrintWords
open Go.Proofs.Ytkpdcacfokcpnaa.Q Go.Proofs.Ytkpdcacfokcpnaa
set_option linter.unusedVariables false
theorem own : ownKnob Try.prog.godebug = none := by kernel_rfl
theorem laidOut : laidOutB Try.prog = true := by kernel_rfl
theorem open_cfg {H : Type} {enc : TypeId × Value → H} {w : World} {fuel : Nat} {cs : List Value} {x : DataW H × List MemPlace} (h : DataW.trod enc Try.prog w 0 (fun _ => true) true fuel 23 cs = some x) (hw : (x.1.weights Try.prog 23).all (· ≤ reachBytes) = true) :
    ∃ (f0 : Int) (f1 : Int) (f2 : Int) (f3 : Int) (f4 : Int) (f5 : Int) (f6 : Int) (f7 : Int), cs = [.int .i64 f0, .int .i64 f1, .int .i64 f2, .int .i64 f3, .int .i64 f4, .int .i64 f5, .int .i64 f6, .int .i64 f7] ∧ (Lit.int .i64 f0).wf = true ∧ (Lit.int .i64 f1).wf = true ∧ (Lit.int .i64 f2).wf = true ∧ (Lit.int .i64 f3).wf = true ∧ (Lit.int .i64 f4).wf = true ∧ (Lit.int .i64 f5).wf = true ∧ (Lit.int .i64 f6).wf = true ∧ (Lit.int .i64 f7).wf = true := by
  obtain ⟨ys, n, _, hx, hlen, hyl, hf⟩ := DataW.trod_struct Try.underlying23 h
  rw [show Try.prog.cellsOf 23 = 8 by kernel_rfl] at hlen
  have hyl' : ys.length = 8 := hyl
  match cs, hlen, ys, hyl' with
  | [c0, c1, c2, c3, c4, c5, c6, c7], _, [y0, y1, y2, y3, y4, y5, y6, y7], _ =>
    have hz : ∀ (j : Nat) (t : TypeId) (d : DataW H), ([3, 3, 3, 3, 3, 3, 3, 3] : List TypeId)[j]? = some t → ([y0.1, y1.1, y2.1, y3.1, y4.1, y5.1, y6.1, y7.1] : List (DataW H))[j]? = some d → (d.weights Try.prog t).all (· ≤ reachBytes) = true := by
      intro j t d ht hd
      rw [hx] at hw
      simp only [DataW.weights, Try.underlying23] at hw
      exact Row.mem_weights_each hw ht hd
    have e0 : DataW.trod enc Try.prog w 0 (fun _ => true) true n 3 [c0] = some y0 := by
      have h' : DataW.trod enc Try.prog w 0 (fun _ => true) true n 3 (([c0, c1, c2, c3, c4, c5, c6, c7].drop 0).take (Try.prog.cellsOf 3)) = ([y0, y1, y2, y3, y4, y5, y6, y7] : List (DataW H × List MemPlace))[0]? := hf 0 _ rfl
      rw [show Try.prog.cellsOf 3 = 1 by kernel_rfl] at h'
      exact h'
    have e1 : DataW.trod enc Try.prog w 0 (fun _ => true) true n 3 [c1] = some y1 := by
      have h' : DataW.trod enc Try.prog w 0 (fun _ => true) true n 3 (([c0, c1, c2, c3, c4, c5, c6, c7].drop 1).take (Try.prog.cellsOf 3)) = ([y0, y1, y2, y3, y4, y5, y6, y7] : List (DataW H × List MemPlace))[1]? := hf 1 _ rfl
      rw [show Try.prog.cellsOf 3 = 1 by kernel_rfl] at h'
      exact h'
    have e2 : DataW.trod enc Try.prog w 0 (fun _ => true) true n 3 [c2] = some y2 := by
      have h' : DataW.trod enc Try.prog w 0 (fun _ => true) true n 3 (([c0, c1, c2, c3, c4, c5, c6, c7].drop 2).take (Try.prog.cellsOf 3)) = ([y0, y1, y2, y3, y4, y5, y6, y7] : List (DataW H × List MemPlace))[2]? := hf 2 _ rfl
      rw [show Try.prog.cellsOf 3 = 1 by kernel_rfl] at h'
      exact h'
    have e3 : DataW.trod enc Try.prog w 0 (fun _ => true) true n 3 [c3] = some y3 := by
      have h' : DataW.trod enc Try.prog w 0 (fun _ => true) true n 3 (([c0, c1, c2, c3, c4, c5, c6, c7].drop 3).take (Try.prog.cellsOf 3)) = ([y0, y1, y2, y3, y4, y5, y6, y7] : List (DataW H × List MemPlace))[3]? := hf 3 _ rfl
      rw [show Try.prog.cellsOf 3 = 1 by kernel_rfl] at h'
      exact h'
    have e4 : DataW.trod enc Try.prog w 0 (fun _ => true) true n 3 [c4] = some y4 := by
      have h' : DataW.trod enc Try.prog w 0 (fun _ => true) true n 3 (([c0, c1, c2, c3, c4, c5, c6, c7].drop 4).take (Try.prog.cellsOf 3)) = ([y0, y1, y2, y3, y4, y5, y6, y7] : List (DataW H × List MemPlace))[4]? := hf 4 _ rfl
      rw [show Try.prog.cellsOf 3 = 1 by kernel_rfl] at h'
      exact h'
    have e5 : DataW.trod enc Try.prog w 0 (fun _ => true) true n 3 [c5] = some y5 := by
      have h' : DataW.trod enc Try.prog w 0 (fun _ => true) true n 3 (([c0, c1, c2, c3, c4, c5, c6, c7].drop 5).take (Try.prog.cellsOf 3)) = ([y0, y1, y2, y3, y4, y5, y6, y7] : List (DataW H × List MemPlace))[5]? := hf 5 _ rfl
      rw [show Try.prog.cellsOf 3 = 1 by kernel_rfl] at h'
      exact h'
    have e6 : DataW.trod enc Try.prog w 0 (fun _ => true) true n 3 [c6] = some y6 := by
      have h' : DataW.trod enc Try.prog w 0 (fun _ => true) true n 3 (([c0, c1, c2, c3, c4, c5, c6, c7].drop 6).take (Try.prog.cellsOf 3)) = ([y0, y1, y2, y3, y4, y5, y6, y7] : List (DataW H × List MemPlace))[6]? := hf 6 _ rfl
      rw [show Try.prog.cellsOf 3 = 1 by kernel_rfl] at h'
      exact h'
    have e7 : DataW.trod enc Try.prog w 0 (fun _ => true) true n 3 [c7] = some y7 := by
      have h' : DataW.trod enc Try.prog w 0 (fun _ => true) true n 3 (([c0, c1, c2, c3, c4, c5, c6, c7].drop 7).take (Try.prog.cellsOf 3)) = ([y0, y1, y2, y3, y4, y5, y6, y7] : List (DataW H × List MemPlace))[7]? := hf 7 _ rfl
      rw [show Try.prog.cellsOf 3 = 1 by kernel_rfl] at h'
      exact h'
    obtain ⟨f0, g0, _, hg0⟩ := DataW.trod_int Try.underlying3 e0
    obtain rfl : c0 = _ := by simpa using g0
    obtain ⟨f1, g1, _, hg1⟩ := DataW.trod_int Try.underlying3 e1
    obtain rfl : c1 = _ := by simpa using g1
    obtain ⟨f2, g2, _, hg2⟩ := DataW.trod_int Try.underlying3 e2
    obtain rfl : c2 = _ := by simpa using g2
    obtain ⟨f3, g3, _, hg3⟩ := DataW.trod_int Try.underlying3 e3
    obtain rfl : c3 = _ := by simpa using g3
    obtain ⟨f4, g4, _, hg4⟩ := DataW.trod_int Try.underlying3 e4
    obtain rfl : c4 = _ := by simpa using g4
    obtain ⟨f5, g5, _, hg5⟩ := DataW.trod_int Try.underlying3 e5
    obtain rfl : c5 = _ := by simpa using g5
    obtain ⟨f6, g6, _, hg6⟩ := DataW.trod_int Try.underlying3 e6
    obtain rfl : c6 = _ := by simpa using g6
    obtain ⟨f7, g7, _, hg7⟩ := DataW.trod_int Try.underlying3 e7
    obtain rfl : c7 = _ := by simpa using g7
    exact ⟨f0, f1, f2, f3, f4, f5, f6, f7, rfl, hg0, hg1, hg2, hg3, hg4, hg5, hg6, hg7⟩
theorem open_stats {H : Type} {enc : TypeId × Value → H} {w : World} {fuel : Nat} {cs : List Value} {x : DataW H × List MemPlace} (h : DataW.trod enc Try.prog w 0 (fun _ => true) true fuel 35 cs = some x) (hw : (x.1.weights Try.prog 35).all (· ≤ reachBytes) = true) :
    ∃ (f0 : Int) (f1 : Int), cs = [.int .u64 f0, .int .u64 f1] ∧ (Lit.int .u64 f0).wf = true ∧ (Lit.int .u64 f1).wf = true := by
  obtain ⟨ys, n, _, hx, hlen, hyl, hf⟩ := DataW.trod_struct Try.underlying35 h
  rw [show Try.prog.cellsOf 35 = 2 by kernel_rfl] at hlen
  have hyl' : ys.length = 2 := hyl
  match cs, hlen, ys, hyl' with
  | [c0, c1], _, [y0, y1], _ =>
    have hz : ∀ (j : Nat) (t : TypeId) (d : DataW H), ([24, 24] : List TypeId)[j]? = some t → ([y0.1, y1.1] : List (DataW H))[j]? = some d → (d.weights Try.prog t).all (· ≤ reachBytes) = true := by
      intro j t d ht hd
      rw [hx] at hw
      simp only [DataW.weights, Try.underlying35] at hw
      exact Row.mem_weights_each hw ht hd
    have e0 : DataW.trod enc Try.prog w 0 (fun _ => true) true n 24 [c0] = some y0 := by
      have h' : DataW.trod enc Try.prog w 0 (fun _ => true) true n 24 (([c0, c1].drop 0).take (Try.prog.cellsOf 24)) = ([y0, y1] : List (DataW H × List MemPlace))[0]? := hf 0 _ rfl
      rw [show Try.prog.cellsOf 24 = 1 by kernel_rfl] at h'
      exact h'
    have e1 : DataW.trod enc Try.prog w 0 (fun _ => true) true n 24 [c1] = some y1 := by
      have h' : DataW.trod enc Try.prog w 0 (fun _ => true) true n 24 (([c0, c1].drop 1).take (Try.prog.cellsOf 24)) = ([y0, y1] : List (DataW H × List MemPlace))[1]? := hf 1 _ rfl
      rw [show Try.prog.cellsOf 24 = 1 by kernel_rfl] at h'
      exact h'
    obtain ⟨f0, g0, _, hg0⟩ := DataW.trod_int Try.underlying24 e0
    obtain rfl : c0 = _ := by simpa using g0
    obtain ⟨f1, g1, _, hg1⟩ := DataW.trod_int Try.underlying24 e1
    obtain rfl : c1 = _ := by simpa using g1
    exact ⟨f0, f1, rfl, hg0, hg1⟩
theorem open_op {H : Type} {enc : TypeId × Value → H} {w : World} {fuel : Nat} {cs : List Value} {x : DataW H × List MemPlace} (h : DataW.trod enc Try.prog w 0 (fun _ => true) true fuel 37 cs = some x) (hw : (x.1.weights Try.prog 37).all (· ≤ reachBytes) = true) :
    ∃ (f0 : Int) (f1 : Bool) (f2 : Int) (f3f0 : Int) (f3f1 : Int), cs = [.int .i64 f0, .bool f1, .int .i64 f2, .int .u64 f3f0, .int .u64 f3f1] ∧ (Lit.int .i64 f0).wf = true ∧ (Lit.int .i64 f2).wf = true ∧ (Lit.int .u64 f3f0).wf = true ∧ (Lit.int .u64 f3f1).wf = true := by
  obtain ⟨ys, n, _, hx, hlen, hyl, hf⟩ := DataW.trod_struct Try.underlying37 h
  rw [show Try.prog.cellsOf 37 = 5 by kernel_rfl] at hlen
  have hyl' : ys.length = 4 := hyl
  match cs, hlen, ys, hyl' with
  | [c0, c1, c2, c3, c4], _, [y0, y1, y2, y3], _ =>
    have hz : ∀ (j : Nat) (t : TypeId) (d : DataW H), ([3, 4, 3, 35] : List TypeId)[j]? = some t → ([y0.1, y1.1, y2.1, y3.1] : List (DataW H))[j]? = some d → (d.weights Try.prog t).all (· ≤ reachBytes) = true := by
      intro j t d ht hd
      rw [hx] at hw
      simp only [DataW.weights, Try.underlying37] at hw
      exact Row.mem_weights_each hw ht hd
    have e0 : DataW.trod enc Try.prog w 0 (fun _ => true) true n 3 [c0] = some y0 := by
      have h' : DataW.trod enc Try.prog w 0 (fun _ => true) true n 3 (([c0, c1, c2, c3, c4].drop 0).take (Try.prog.cellsOf 3)) = ([y0, y1, y2, y3] : List (DataW H × List MemPlace))[0]? := hf 0 _ rfl
      rw [show Try.prog.cellsOf 3 = 1 by kernel_rfl] at h'
      exact h'
    have e1 : DataW.trod enc Try.prog w 0 (fun _ => true) true n 4 [c1] = some y1 := by
      have h' : DataW.trod enc Try.prog w 0 (fun _ => true) true n 4 (([c0, c1, c2, c3, c4].drop 1).take (Try.prog.cellsOf 4)) = ([y0, y1, y2, y3] : List (DataW H × List MemPlace))[1]? := hf 1 _ rfl
      rw [show Try.prog.cellsOf 4 = 1 by kernel_rfl] at h'
      exact h'
    have e2 : DataW.trod enc Try.prog w 0 (fun _ => true) true n 3 [c2] = some y2 := by
      have h' : DataW.trod enc Try.prog w 0 (fun _ => true) true n 3 (([c0, c1, c2, c3, c4].drop 2).take (Try.prog.cellsOf 3)) = ([y0, y1, y2, y3] : List (DataW H × List MemPlace))[2]? := hf 2 _ rfl
      rw [show Try.prog.cellsOf 3 = 1 by kernel_rfl] at h'
      exact h'
    have e3 : DataW.trod enc Try.prog w 0 (fun _ => true) true n 35 [c3, c4] = some y3 := by
      have h' : DataW.trod enc Try.prog w 0 (fun _ => true) true n 35 (([c0, c1, c2, c3, c4].drop 3).take (Try.prog.cellsOf 35)) = ([y0, y1, y2, y3] : List (DataW H × List MemPlace))[3]? := hf 3 _ rfl
      rw [show Try.prog.cellsOf 35 = 2 by kernel_rfl] at h'
      exact h'
    obtain ⟨f0, g0, _, hg0⟩ := DataW.trod_int Try.underlying3 e0
    obtain rfl : c0 = _ := by simpa using g0
    obtain ⟨f1, g1, _⟩ := DataW.trod_bool Try.underlying4 e1
    obtain rfl : c1 = _ := by simpa using g1
    obtain ⟨f2, g2, _, hg2⟩ := DataW.trod_int Try.underlying3 e2
    obtain rfl : c2 = _ := by simpa using g2
    obtain ⟨f3f0, f3f1, g3, hgf3f0, hgf3f1⟩ := open_stats e3 (hz 3 35 _ rfl rfl)
    obtain ⟨rfl, rfl⟩ : c3 = .int .u64 f3f0 ∧ c4 = .int .u64 f3f1 := by simpa using g3
    exact ⟨f0, f1, f2, f3f0, f3f1, rfl, hg0, hg2, hgf3f0, hgf3f1⟩
theorem nonneg_u64 {x : Int} (h : (Lit.int .u64 x).wf = true) : 0 ≤ x := by
  have : 0 ≤ x ∧ x ≤ 18446744073709551615 := by simpa [Lit.wf, IntKind.min, IntKind.max, IntKind.signed, IntKind.bits] using h
  exact this.1
theorem opens_op : Row.Opens Try.prog 37 k37 (fun o => 0 ≤ o.f3.f0 ∧ 0 ≤ o.f3.f1) := by
  intro H enc w fuel cs x h hw
  obtain ⟨f0, f1, f2, f3f0, f3f1, rfl, g0, g1, g2, g3⟩ := open_op h hw
  exact ⟨⟨f0, f1, f2, ⟨f3f0, f3f1⟩⟩, k37_mk _ _, nonneg_u64 g2, nonneg_u64 g3⟩
set_option maxRecDepth 100000 in
theorem lifted (os : Os) (started : os.Started) (H : Type) (enc : TypeId × Value → H) :
    ReturnsInHanded {} Try.checked os 4 .any (Rows.meterGrowsSpec.pre6 enc Try.prog Try.f4 Rows.meterGrowsRow.domain false) (Rows.meterGrowsSpec.post enc Try.prog Try.f4 false true false false) := by
  refine returnsInHanded_of_change_sized (C := Try.checked) own started (by kernel_rfl) Try.func4
    (ChangeSpec.witness6 (enc := enc) (C := Try.checked) false ⟨#[], #[.agg #[.int .i64 0, .int .i64 0, .int .i64 0, .int .i64 0, .int .i64 0, .int .i64 0, .int .i64 0, .int .i64 0], .slice none 0 0], []⟩ 8 (by kernel_rfl) (by kernel_rfl) (by kernel_rfl) (by kernel_rfl)) ?_
  intro W base args ds gs before hval0 hW hcnd hsz0 _
  have hsz : (DataW.weightsEach Try.prog (Try.f4.params.toList ++ Rows.meterGrowsSpec.plain.varTypes Try.prog) (ds ++ gs)).all (· ≤ reachBytes) = true := hsz0
  have hval : ∀ (j : Nat) t v, Try.f4.params[j]? = some t → args[j]? = some v → Value.okWide Try.prog W .any base t v := hval0
  have hW' := hW
  obtain ⟨p, q, hA0, hV, rfl, hfz, hnd⟩ := hW
  have hA : DataW.TrodAll enc Try.prog W 0 (fun _ => true) true Try.f4.params.toList args.toList ds p := hA0
  rw [Try.params4] at hA hval hsz
  obtain ⟨v0, vs0, d0, ds0, p0, q0, hargs, rfl, rfl, h0, r0⟩ := trodAll_cons hA
  obtain ⟨v1, vs1, d1, ds1, p1, q1, rfl, rfl, rfl, h1, r1⟩ := trodAll_cons r0
  obtain ⟨rfl, rfl, rfl⟩ := trodAll_nil r1
  obtain rfl : args = #[v0, v1] := by cases args; simp_all
  obtain ⟨rfl, rfl⟩ := trodVars_none hV
  have z0 := Row.mem_weights_each hsz (j := 0) (t := 23) rfl rfl
  obtain ⟨f0, hf0⟩ := h0
  obtain ⟨cs0, rfl, hsz0⟩ := okWide_struct Try.underlying23 (hval 0 23 v0 rfl rfl)
  obtain ⟨x0_f0, x0_f1, x0_f2, x0_f3, x0_f4, x0_f5, x0_f6, x0_f7, k0, hgx0_f0, hgx0_f1, hgx0_f2, hgx0_f3, hgx0_f4, hgx0_f5, hgx0_f6, hgx0_f7⟩ := open_cfg hf0 z0
  obtain rfl : cs0 = #[.int .i64 x0_f0, .int .i64 x0_f1, .int .i64 x0_f2, .int .i64 x0_f3, .int .i64 x0_f4, .int .i64 x0_f5, .int .i64 x0_f6, .int .i64 x0_f7] := by apply Array.ext'; simpa [Value.cells] using k0
  have z1 := Row.mem_weights_each hsz (j := 1) (t := 29) rfl rfl
  obtain ⟨f1, hf1⟩ := h1
  obtain ⟨x1, k1, g1⟩ := (Row.opens_slice z37 Try.underlying29 (by kernel_rfl) (by kernel_rfl : Try.prog.bytesOf 37 = 40) opens_op) H enc W f1 _ _ hf1 z1
  obtain ⟨A1, l1, c1, rfl⟩ := okWide_slice Try.underlying29 (hval 1 29 v1 rfl rfl)
  obtain ⟨B1, e1, k1, hc1, hC1⟩ := k1
  obtain ⟨rfl, rfl, rfl⟩ : A1 = B1 ∧ l1 = x1.length ∧ c1 = e1 := by simpa [Value.cells] using k1
  clear hA0 hval0 hsz0
  refine (grows_calls ⟨x0_f0, x0_f1, x0_f2, x0_f3, x0_f4, x0_f5, x0_f6, x0_f7⟩ A1 c1 x1 W hC1 hc1 (fun o ho => g1.2 o ho)).mono fun e W' ⟨he, bel⟩ => ?_
  subst he
  exact ⟨_, rfl, Row.post_true laidOut rfl Try.underlying4 (by rw [Try.params4]; intro t ht; simp at ht; rcases ht with rfl | rfl <;> exact ⟨by kernel_rfl, of_decide_eq_true (by kernel_rfl)⟩) rfl ⟨rfl, rfl, rfl⟩ hW' bel⟩
theorem over : Rows.meterGrowsRow.holds Try.pinned (OpenSpec.ofChange Rows.meterGrowsSpec) :=
  OpenClaim.holds_of_wide 4 Try.f4 rfl rfl rfl rfl rfl rfl rfl ⟨rfl, rfl, rfl, rfl, rfl⟩ rfl rfl rfl rfl rfl (by kernel_rfl) Try.func4 (by kernel_rfl)
    (of_decide_eq_true (by kernel_rfl)) (by unfold Func.isWrapper; first | (rw [if_pos (by decide +kernel)]; kernel_rfl) | (rw [if_neg (by decide +kernel)]; exact ⟨rfl, rfl⟩))
    (fun os started H enc _ => lifted os started H enc)
theorem proved : Rows.MeterGrowsSaid := over
end Go.Proofs.Ytkpdcacfokcpnaa.meterGrows
namespace Go.Proofs.Ytkpdcacfokcpnaa
/-- The row, under a short name, for the claim. -/
theorem meterGrows_holds : Rows.MeterGrowsSaid := meterGrows.proved
#print axioms meterGrows_holds
end Go.Proofs.Ytkpdcacfokcpnaa

