/- What was written is read as it was, and with one byte turned is not read at all: proved for every head, place and number, at any size. No condition beyond the statement's own. -/
import Derived.Test.YtlnndkhnabooeaaRows
import Derived.Test.YtlnndkhnabooeaaRow
import Derived.Test.YtlnndkhnabooeaaHeadBack
namespace Go.Proofs.Ytlnndkhnabooeaa.headBack
open Go.ChangeShapes Go.WideShapes Go.ChangeAt Go.RowKit
open Go.ChangeMaps (open_string shut_string)
open Go.Proofs.YtlnndkhnabooeaaW.PrintWords
open Go.Proofs.Ytlnndkhnabooeaa.Head
set_option linter.unusedVariables false
theorem own : ownKnob Try.prog.godebug = none := by kernel_rfl
theorem laidOut : laidOutB Try.prog = true := by kernel_rfl
theorem open_cfg {H : Type} {enc : TypeId × Value → H} {w : World} {fuel : Nat} {cs : List Value} {x : DataW H × List MemPlace} (h : DataW.trod enc Try.prog w 0 (fun _ => true) true fuel 23 cs = some x) (hw : (x.1.weights Try.prog 23).all (· ≤ reachBytes) = true) :
    ∃ (f0 : Int) (f1 : Int) (f2 : Int) (f3 : Int) (f4 : Int) (f5 : Int) (f6 : Int) (f7 : Int), cs = [.int .i64 f0, .int .i64 f1, .int .i64 f2, .int .i64 f3, .int .i64 f4, .int .i64 f5, .int .i64 f6, .int .i64 f7] ∧ (Lit.int .i64 f0).wf = true ∧ (Lit.int .i64 f1).wf = true ∧ (Lit.int .i64 f2).wf = true ∧ (Lit.int .i64 f3).wf = true ∧ (Lit.int .i64 f4).wf = true ∧ (Lit.int .i64 f5).wf = true ∧ (Lit.int .i64 f6).wf = true ∧ (Lit.int .i64 f7).wf = true := by
  obtain ⟨ys, n, _, hx, hlen, hyl, hf⟩ := DataW.trod_struct Try.underlying23 h
  rw [show Try.prog.cellsOf 23 = 8 by kernel_rfl] at hlen
  have hyl' : ys.length = 8 := hyl
  match cs, hlen, ys, hyl' with
  | [c0, c1, c2, c3, c4, c5, c6, c7], _, [y0, y1, y2, y3, y4, y5, y6, y7], _ =>
    have hz : ∀ (j : Nat) (t : TypeId) (d : DataW H), ([3, 3, 3, 3, 3, 3, 3, 3] : List TypeId)[j]? = some t → ([y0.1, y1.1, y2.1, y3.1, y4.1, y5.1, y6.1, y7.1] : List (DataW H))[j]? = some d → (d.weights Try.prog t).all (· ≤ reachBytes) = true := by
      intro j t d ht hd
      rw [hx] at hw
      simp only [DataW.weights, Try.underlying23] at hw
      exact Row.mem_weights_each hw ht hd
    have e0 : DataW.trod enc Try.prog w 0 (fun _ => true) true n 3 [c0] = some y0 := by
      have h' : DataW.trod enc Try.prog w 0 (fun _ => true) true n 3 (([c0, c1, c2, c3, c4, c5, c6, c7].drop 0).take (Try.prog.cellsOf 3)) = ([y0, y1, y2, y3, y4, y5, y6, y7] : List (DataW H × List MemPlace))[0]? := hf 0 _ rfl
      rw [show Try.prog.cellsOf 3 = 1 by kernel_rfl] at h'
      exact h'
    have e1 : DataW.trod enc Try.prog w 0 (fun _ => true) true n 3 [c1] = some y1 := by
      have h' : DataW.trod enc Try.prog w 0 (fun _ => true) true n 3 (([c0, c1, c2, c3, c4, c5, c6, c7].drop 1).take (Try.prog.cellsOf 3)) = ([y0, y1, y2, y3, y4, y5, y6, y7] : List (DataW H × List MemPlace))[1]? := hf 1 _ rfl
      rw [show Try.prog.cellsOf 3 = 1 by kernel_rfl] at h'
      exact h'
    have e2 : DataW.trod enc Try.prog w 0 (fun _ => true) true n 3 [c2] = some y2 := by
      have h' : DataW.trod enc Try.prog w 0 (fun _ => true) true n 3 (([c0, c1, c2, c3, c4, c5, c6, c7].drop 2).take (Try.prog.cellsOf 3)) = ([y0, y1, y2, y3, y4, y5, y6, y7] : List (DataW H × List MemPlace))[2]? := hf 2 _ rfl
      rw [show Try.prog.cellsOf 3 = 1 by kernel_rfl] at h'
      exact h'
    have e3 : DataW.trod enc Try.prog w 0 (fun _ => true) true n 3 [c3] = some y3 := by
      have h' : DataW.trod enc Try.prog w 0 (fun _ => true) true n 3 (([c0, c1, c2, c3, c4, c5, c6, c7].drop 3).take (Try.prog.cellsOf 3)) = ([y0, y1, y2, y3, y4, y5, y6, y7] : List (DataW H × List MemPlace))[3]? := hf 3 _ rfl
      rw [show Try.prog.cellsOf 3 = 1 by kernel_rfl] at h'
      exact h'
    have e4 : DataW.trod enc Try.prog w 0 (fun _ => true) true n 3 [c4] = some y4 := by
      have h' : DataW.trod enc Try.prog w 0 (fun _ => true) true n 3 (([c0, c1, c2, c3, c4, c5, c6, c7].drop 4).take (Try.prog.cellsOf 3)) = ([y0, y1, y2, y3, y4, y5, y6, y7] : List (DataW H × List MemPlace))[4]? := hf 4 _ rfl
      rw [show Try.prog.cellsOf 3 = 1 by kernel_rfl] at h'
      exact h'
    have e5 : DataW.trod enc Try.prog w 0 (fun _ => true) true n 3 [c5] = some y5 := by
      have h' : DataW.trod enc Try.prog w 0 (fun _ => true) true n 3 (([c0, c1, c2, c3, c4, c5, c6, c7].drop 5).take (Try.prog.cellsOf 3)) = ([y0, y1, y2, y3, y4, y5, y6, y7] : List (DataW H × List MemPlace))[5]? := hf 5 _ rfl
      rw [show Try.prog.cellsOf 3 = 1 by kernel_rfl] at h'
      exact h'
    have e6 : DataW.trod enc Try.prog w 0 (fun _ => true) true n 3 [c6] = some y6 := by
      have h' : DataW.trod enc Try.prog w 0 (fun _ => true) true n 3 (([c0, c1, c2, c3, c4, c5, c6, c7].drop 6).take (Try.prog.cellsOf 3)) = ([y0, y1, y2, y3, y4, y5, y6, y7] : List (DataW H × List MemPlace))[6]? := hf 6 _ rfl
      rw [show Try.prog.cellsOf 3 = 1 by kernel_rfl] at h'
      exact h'
    have e7 : DataW.trod enc Try.prog w 0 (fun _ => true) true n 3 [c7] = some y7 := by
      have h' : DataW.trod enc Try.prog w 0 (fun _ => true) true n 3 (([c0, c1, c2, c3, c4, c5, c6, c7].drop 7).take (Try.prog.cellsOf 3)) = ([y0, y1, y2, y3, y4, y5, y6, y7] : List (DataW H × List MemPlace))[7]? := hf 7 _ rfl
      rw [show Try.prog.cellsOf 3 = 1 by kernel_rfl] at h'
      exact h'
    obtain ⟨f0, g0, _, hg0⟩ := DataW.trod_int Try.underlying3 e0
    obtain rfl : c0 = _ := by simpa using g0
    obtain ⟨f1, g1, _, hg1⟩ := DataW.trod_int Try.underlying3 e1
    obtain rfl : c1 = _ := by simpa using g1
    obtain ⟨f2, g2, _, hg2⟩ := DataW.trod_int Try.underlying3 e2
    obtain rfl : c2 = _ := by simpa using g2
    obtain ⟨f3, g3, _, hg3⟩ := DataW.trod_int Try.underlying3 e3
    obtain rfl : c3 = _ := by simpa using g3
    obtain ⟨f4, g4, _, hg4⟩ := DataW.trod_int Try.underlying3 e4
    obtain rfl : c4 = _ := by simpa using g4
    obtain ⟨f5, g5, _, hg5⟩ := DataW.trod_int Try.underlying3 e5
    obtain rfl : c5 = _ := by simpa using g5
    obtain ⟨f6, g6, _, hg6⟩ := DataW.trod_int Try.underlying3 e6
    obtain rfl : c6 = _ := by simpa using g6
    obtain ⟨f7, g7, _, hg7⟩ := DataW.trod_int Try.underlying3 e7
    obtain rfl : c7 = _ := by simpa using g7
    exact ⟨f0, f1, f2, f3, f4, f5, f6, f7, rfl, hg0, hg1, hg2, hg3, hg4, hg5, hg6, hg7⟩
theorem open_head {H : Type} {enc : TypeId × Value → H} {w : World} {fuel : Nat} {cs : List Value} {x : DataW H × List MemPlace} (h : DataW.trod enc Try.prog w 0 (fun _ => true) true fuel 26 cs = some x) (hw : (x.1.weights Try.prog 26).all (· ≤ reachBytes) = true) :
    ∃ (f0f0 : Int) (f0f1 : Int) (f0f2 : Int) (f0f3 : Int) (f0f4 : Int) (f0f5 : Int) (f0f6 : Int) (f0f7 : Int) (f1 : Int) (f2 : Int), cs = [.int .i64 f0f0, .int .i64 f0f1, .int .i64 f0f2, .int .i64 f0f3, .int .i64 f0f4, .int .i64 f0f5, .int .i64 f0f6, .int .i64 f0f7, .int .u32 f1, .int .i64 f2] ∧ (Lit.int .i64 f0f0).wf = true ∧ (Lit.int .i64 f0f1).wf = true ∧ (Lit.int .i64 f0f2).wf = true ∧ (Lit.int .i64 f0f3).wf = true ∧ (Lit.int .i64 f0f4).wf = true ∧ (Lit.int .i64 f0f5).wf = true ∧ (Lit.int .i64 f0f6).wf = true ∧ (Lit.int .i64 f0f7).wf = true ∧ (Lit.int .u32 f1).wf = true ∧ (Lit.int .i64 f2).wf = true := by
  obtain ⟨ys, n, _, hx, hlen, hyl, hf⟩ := DataW.trod_struct Try.underlying26 h
  rw [show Try.prog.cellsOf 26 = 10 by kernel_rfl] at hlen
  have hyl' : ys.length = 3 := hyl
  match cs, hlen, ys, hyl' with
  | [c0, c1, c2, c3, c4, c5, c6, c7, c8, c9], _, [y0, y1, y2], _ =>
    have hz : ∀ (j : Nat) (t : TypeId) (d : DataW H), ([23, 24, 3] : List TypeId)[j]? = some t → ([y0.1, y1.1, y2.1] : List (DataW H))[j]? = some d → (d.weights Try.prog t).all (· ≤ reachBytes) = true := by
      intro j t d ht hd
      rw [hx] at hw
      simp only [DataW.weights, Try.underlying26] at hw
      exact Row.mem_weights_each hw ht hd
    have e0 : DataW.trod enc Try.prog w 0 (fun _ => true) true n 23 [c0, c1, c2, c3, c4, c5, c6, c7] = some y0 := by
      have h' : DataW.trod enc Try.prog w 0 (fun _ => true) true n 23 (([c0, c1, c2, c3, c4, c5, c6, c7, c8, c9].drop 0).take (Try.prog.cellsOf 23)) = ([y0, y1, y2] : List (DataW H × List MemPlace))[0]? := hf 0 _ rfl
      rw [show Try.prog.cellsOf 23 = 8 by kernel_rfl] at h'
      exact h'
    have e1 : DataW.trod enc Try.prog w 0 (fun _ => true) true n 24 [c8] = some y1 := by
      have h' : DataW.trod enc Try.prog w 0 (fun _ => true) true n 24 (([c0, c1, c2, c3, c4, c5, c6, c7, c8, c9].drop 8).take (Try.prog.cellsOf 24)) = ([y0, y1, y2] : List (DataW H × List MemPlace))[1]? := hf 1 _ rfl
      rw [show Try.prog.cellsOf 24 = 1 by kernel_rfl] at h'
      exact h'
    have e2 : DataW.trod enc Try.prog w 0 (fun _ => true) true n 3 [c9] = some y2 := by
      have h' : DataW.trod enc Try.prog w 0 (fun _ => true) true n 3 (([c0, c1, c2, c3, c4, c5, c6, c7, c8, c9].drop 9).take (Try.prog.cellsOf 3)) = ([y0, y1, y2] : List (DataW H × List MemPlace))[2]? := hf 2 _ rfl
      rw [show Try.prog.cellsOf 3 = 1 by kernel_rfl] at h'
      exact h'
    obtain ⟨f0f0, f0f1, f0f2, f0f3, f0f4, f0f5, f0f6, f0f7, g0, hgf0f0, hgf0f1, hgf0f2, hgf0f3, hgf0f4, hgf0f5, hgf0f6, hgf0f7⟩ := open_cfg e0 (hz 0 23 _ rfl rfl)
    obtain ⟨rfl, rfl, rfl, rfl, rfl, rfl, rfl, rfl⟩ : c0 = .int .i64 f0f0 ∧ c1 = .int .i64 f0f1 ∧ c2 = .int .i64 f0f2 ∧ c3 = .int .i64 f0f3 ∧ c4 = .int .i64 f0f4 ∧ c5 = .int .i64 f0f5 ∧ c6 = .int .i64 f0f6 ∧ c7 = .int .i64 f0f7 := by simpa using g0
    obtain ⟨f1, g1, _, hg1⟩ := DataW.trod_int Try.underlying24 e1
    obtain rfl : c8 = _ := by simpa using g1
    obtain ⟨f2, g2, _, hg2⟩ := DataW.trod_int Try.underlying3 e2
    obtain rfl : c9 = _ := by simpa using g2
    exact ⟨f0f0, f0f1, f0f2, f0f3, f0f4, f0f5, f0f6, f0f7, f1, f2, rfl, hgf0f0, hgf0f1, hgf0f2, hgf0f3, hgf0f4, hgf0f5, hgf0f6, hgf0f7, hg1, hg2⟩
theorem typed_of {x : Int} (h : (Lit.int .u32 x).wf = true) : 0 ≤ x ∧ x < 4294967296 := by
  have : 0 ≤ x ∧ x ≤ 4294967295 := by simpa [Lit.wf, IntKind.min, IntKind.max, IntKind.signed, IntKind.bits] using h
  omega
set_option maxRecDepth 100000 in
theorem lifted (os : Os) (started : os.Started) (H : Type) (enc : TypeId × Value → H) :
    ReturnsInHanded {} Try.checked os 5 .any (Rows.headBackSpec.pre6 enc Try.prog Try.f5 Rows.headBackRow.domain false) (Rows.headBackSpec.post enc Try.prog Try.f5 false true false false) := by
  refine returnsInHanded_of_change_sized (C := Try.checked) own started (by kernel_rfl) Try.func5
    (ChangeSpec.witness6 (enc := enc) (C := Try.checked) false ⟨#[], #[.agg #[.int .i64 0, .int .i64 0, .int .i64 0, .int .i64 0, .int .i64 0, .int .i64 0, .int .i64 0, .int .i64 0, .int .u32 0, .int .i64 0], .int .u16 0, .int .u8 0], []⟩ 8 (by kernel_rfl) (by kernel_rfl) (by kernel_rfl) (by kernel_rfl)) ?_
  intro W base args ds gs before hval0 hW hcnd hsz0 _
  have hsz : (DataW.weightsEach Try.prog (Try.f5.params.toList ++ Rows.headBackSpec.plain.varTypes Try.prog) (ds ++ gs)).all (· ≤ reachBytes) = true := hsz0
  have hval : ∀ (j : Nat) t v, Try.f5.params[j]? = some t → args[j]? = some v → Value.okWide Try.prog W .any base t v := hval0
  have hW' := hW
  obtain ⟨p, q, hA0, hV, rfl, hfz, hnd⟩ := hW
  have hA : DataW.TrodAll enc Try.prog W 0 (fun _ => true) true Try.f5.params.toList args.toList ds p := hA0
  rw [Try.params5] at hA hval hsz
  obtain ⟨v0, vs0, d0, ds0, p0, q0, hargs, rfl, rfl, h0, r0⟩ := trodAll_cons hA
  obtain ⟨v1, vs1, d1, ds1, p1, q1, rfl, rfl, rfl, h1, r1⟩ := trodAll_cons r0
  obtain ⟨v2, vs2, d2, ds2, p2, q2, rfl, rfl, rfl, h2, r2⟩ := trodAll_cons r1
  obtain ⟨rfl, rfl, rfl⟩ := trodAll_nil r2
  obtain rfl : args = #[v0, v1, v2] := by cases args; simp_all
  obtain ⟨rfl, rfl⟩ := trodVars_none hV
  have z0 := Row.mem_weights_each hsz (j := 0) (t := 26) rfl rfl
  obtain ⟨f0, hf0⟩ := h0
  obtain ⟨cs0, rfl, hsz0⟩ := okWide_struct Try.underlying26 (hval 0 26 v0 rfl rfl)
  obtain ⟨x0_f0f0, x0_f0f1, x0_f0f2, x0_f0f3, x0_f0f4, x0_f0f5, x0_f0f6, x0_f0f7, x0_f1, x0_f2, k0, hgx0_f0f0, hgx0_f0f1, hgx0_f0f2, hgx0_f0f3, hgx0_f0f4, hgx0_f0f5, hgx0_f0f6, hgx0_f0f7, hgx0_f1, hgx0_f2⟩ := open_head hf0 z0
  obtain rfl : cs0 = #[.int .i64 x0_f0f0, .int .i64 x0_f0f1, .int .i64 x0_f0f2, .int .i64 x0_f0f3, .int .i64 x0_f0f4, .int .i64 x0_f0f5, .int .i64 x0_f0f6, .int .i64 x0_f0f7, .int .u32 x0_f1, .int .i64 x0_f2] := by apply Array.ext'; simpa [Value.cells] using k0
  obtain ⟨a1, rfl, rfl, rfl, w1⟩ := open_int Try.underlying42 (hval 1 42 v1 rfl rfl) h1
  obtain ⟨a2, rfl, rfl, rfl, w2⟩ := open_int Try.underlying5 (hval 2 5 v2 rfl rfl) h2
  clear hA0 hval0 hsz0
  have wa : 0 ≤ a1 ∧ a1 ≤ 65535 := by simpa [Lit.wf, IntKind.min, IntKind.max, IntKind.signed, IntKind.bits] using w1
  have wb : 0 ≤ a2 ∧ a2 ≤ 255 := by simpa [Lit.wf, IntKind.min, IntKind.max, IntKind.signed, IntKind.bits] using w2
  refine (back_calls ⟨⟨x0_f0f0, x0_f0f1, x0_f0f2, x0_f0f3, x0_f0f4, x0_f0f5, x0_f0f6, x0_f0f7⟩, x0_f1, x0_f2⟩ (typed_of hgx0_f1) a1 a2 ⟨wa.1, by omega⟩ ⟨wb.1, by omega⟩ W).mono fun e W' ⟨he, bel⟩ => ?_
  subst he
  exact ⟨_, rfl, Row.post_true laidOut rfl Try.underlying4 (by rw [Try.params5]; intro t ht; simp at ht; rcases ht with rfl | rfl | rfl <;> exact ⟨by kernel_rfl, of_decide_eq_true (by kernel_rfl)⟩) rfl ⟨rfl, rfl, rfl⟩ hW' bel⟩
theorem over : Rows.headBackRow.holds Try.pinned (OpenSpec.ofChange Rows.headBackSpec) :=
  OpenClaim.holds_of_wide 5 Try.f5 rfl rfl rfl rfl rfl rfl rfl ⟨rfl, rfl, rfl, rfl, rfl⟩ rfl rfl rfl rfl rfl (by kernel_rfl) Try.func5 (by kernel_rfl)
    (of_decide_eq_true (by kernel_rfl)) (by unfold Func.isWrapper; first | (rw [if_pos (by decide +kernel)]; kernel_rfl) | (rw [if_neg (by decide +kernel)]; exact ⟨rfl, rfl⟩))
    (fun os started H enc _ => lifted os started H enc)
theorem proved : Rows.HeadBackSaid := over
end Go.Proofs.Ytlnndkhnabooeaa.headBack
namespace Go.Proofs.Ytlnndkhnabooeaa
/-- The row, under a short name, for the claim. -/
theorem headBack_holds : Rows.HeadBackSaid := headBack.proved
#print axioms headBack_holds
end Go.Proofs.Ytlnndkhnabooeaa

