/- The bytes of a script, and of an answer, with the last byte cut off or one more behind are none: proved for every script, answer and byte, at any size. No condition beyond the statement's own. -/
import Derived.Test.YtfpdapdnmkadeaaRows
import Derived.Test.YtfpdapdnmkadeaaRow
import Derived.Test.YtfpdapdnmkadeaaWireCu
namespace Go.Proofs.Ytfpdapdnmkadeaa.wireCut
open Go.ChangeShapes Go.WideShapes Go.ChangeAt Go.RowKit
open Go.ChangeMaps (open_string shut_string)
open Go.Proofs.YtfpdapdnmkadeaaW.PrintWords
open Go.Proofs.Ytfpdapdnmkadeaa.Wire Go.Proofs.Ytfpdapdnmkadeaa.Word Go.Proofs.Ytfpdapdnmkadeaa.Q
set_option linter.unusedVariables false
theorem own : ownKnob Try.prog.godebug = none := by kernel_rfl
theorem laidOut : laidOutB Try.prog = true := by kernel_rfl
theorem open_op {H : Type} {enc : TypeId × Value → H} {w : World} {fuel : Nat} {cs : List Value} {x : DataW H × List MemPlace} (h : DataW.trod enc Try.prog w 0 (fun _ => true) true fuel 52 cs = some x) (hw : (x.1.weights Try.prog 52).all (· ≤ reachBytes) = true) :
    ∃ (f0 : Int) (f1 : ByteArray) (f2 : ByteArray) (f3 : Int), cs = [.int .i64 f0, .string f1, .string f2, .int .i64 f3] ∧ (Lit.int .i64 f0).wf = true ∧ f1.size ≤ 140737488351232 ∧ f2.size ≤ 140737488351232 ∧ (Lit.int .i64 f3).wf = true := by
  obtain ⟨ys, n, _, hx, hlen, hyl, hf⟩ := DataW.trod_struct Try.underlying52 h
  rw [show Try.prog.cellsOf 52 = 4 by kernel_rfl] at hlen
  have hyl' : ys.length = 4 := hyl
  match cs, hlen, ys, hyl' with
  | [c0, c1, c2, c3], _, [y0, y1, y2, y3], _ =>
    have hz : ∀ (j : Nat) (t : TypeId) (d : DataW H), ([3, 9, 9, 3] : List TypeId)[j]? = some t → ([y0.1, y1.1, y2.1, y3.1] : List (DataW H))[j]? = some d → (d.weights Try.prog t).all (· ≤ reachBytes) = true := by
      intro j t d ht hd
      rw [hx] at hw
      simp only [DataW.weights, Try.underlying52] at hw
      exact Row.mem_weights_each hw ht hd
    have e0 : DataW.trod enc Try.prog w 0 (fun _ => true) true n 3 [c0] = some y0 := by
      have h' : DataW.trod enc Try.prog w 0 (fun _ => true) true n 3 (([c0, c1, c2, c3].drop 0).take (Try.prog.cellsOf 3)) = ([y0, y1, y2, y3] : List (DataW H × List MemPlace))[0]? := hf 0 _ rfl
      rw [show Try.prog.cellsOf 3 = 1 by kernel_rfl] at h'
      exact h'
    have e1 : DataW.trod enc Try.prog w 0 (fun _ => true) true n 9 [c1] = some y1 := by
      have h' : DataW.trod enc Try.prog w 0 (fun _ => true) true n 9 (([c0, c1, c2, c3].drop 1).take (Try.prog.cellsOf 9)) = ([y0, y1, y2, y3] : List (DataW H × List MemPlace))[1]? := hf 1 _ rfl
      rw [show Try.prog.cellsOf 9 = 1 by kernel_rfl] at h'
      exact h'
    have e2 : DataW.trod enc Try.prog w 0 (fun _ => true) true n 9 [c2] = some y2 := by
      have h' : DataW.trod enc Try.prog w 0 (fun _ => true) true n 9 (([c0, c1, c2, c3].drop 2).take (Try.prog.cellsOf 9)) = ([y0, y1, y2, y3] : List (DataW H × List MemPlace))[2]? := hf 2 _ rfl
      rw [show Try.prog.cellsOf 9 = 1 by kernel_rfl] at h'
      exact h'
    have e3 : DataW.trod enc Try.prog w 0 (fun _ => true) true n 3 [c3] = some y3 := by
      have h' : DataW.trod enc Try.prog w 0 (fun _ => true) true n 3 (([c0, c1, c2, c3].drop 3).take (Try.prog.cellsOf 3)) = ([y0, y1, y2, y3] : List (DataW H × List MemPlace))[3]? := hf 3 _ rfl
      rw [show Try.prog.cellsOf 3 = 1 by kernel_rfl] at h'
      exact h'
    obtain ⟨f0, g0, _, hg0⟩ := DataW.trod_int Try.underlying3 e0
    obtain rfl : c0 = _ := by simpa using g0
    obtain ⟨f1, kk1, hg1⟩ := Row.opens_string Try.underlying9 H enc w n _ _ e1 (hz 1 9 _ rfl rfl)
    obtain rfl : c1 = .string f1 := by simpa [Kd.string, Kd.scalar] using kk1
    obtain ⟨f2, kk2, hg2⟩ := Row.opens_string Try.underlying9 H enc w n _ _ e2 (hz 2 9 _ rfl rfl)
    obtain rfl : c2 = .string f2 := by simpa [Kd.string, Kd.scalar] using kk2
    obtain ⟨f3, g3, _, hg3⟩ := DataW.trod_int Try.underlying3 e3
    obtain rfl : c3 = _ := by simpa using g3
    exact ⟨f0, f1, f2, f3, rfl, hg0, hg1, hg2, hg3⟩
theorem opens_op : Row.Opens Try.prog 52 Go.Proofs.Ytfpdapdnmkadeaa.O.k52 (fun p => True) := by
  intro H enc w fuel cs x h hw
  obtain ⟨f0, f1, f2, f3, rfl, g0, g1, g2, g3⟩ := open_op h hw
  exact ⟨⟨f0, f1, f2, f3⟩, Go.Proofs.Ytfpdapdnmkadeaa.O.k52_mk _ _, trivial⟩
theorem open_pair {H : Type} {enc : TypeId × Value → H} {w : World} {fuel : Nat} {cs : List Value} {x : DataW H × List MemPlace} (h : DataW.trod enc Try.prog w 0 (fun _ => true) true fuel 27 cs = some x) (hw : (x.1.weights Try.prog 27).all (· ≤ reachBytes) = true) :
    ∃ (f0 : ByteArray) (f1 : ByteArray), cs = [.string f0, .string f1] ∧ f0.size ≤ 140737488351232 ∧ f1.size ≤ 140737488351232 := by
  obtain ⟨ys, n, _, hx, hlen, hyl, hf⟩ := DataW.trod_struct Try.underlying27 h
  rw [show Try.prog.cellsOf 27 = 2 by kernel_rfl] at hlen
  have hyl' : ys.length = 2 := hyl
  match cs, hlen, ys, hyl' with
  | [c0, c1], _, [y0, y1], _ =>
    have hz : ∀ (j : Nat) (t : TypeId) (d : DataW H), ([9, 9] : List TypeId)[j]? = some t → ([y0.1, y1.1] : List (DataW H))[j]? = some d → (d.weights Try.prog t).all (· ≤ reachBytes) = true := by
      intro j t d ht hd
      rw [hx] at hw
      simp only [DataW.weights, Try.underlying27] at hw
      exact Row.mem_weights_each hw ht hd
    have e0 : DataW.trod enc Try.prog w 0 (fun _ => true) true n 9 [c0] = some y0 := by
      have h' : DataW.trod enc Try.prog w 0 (fun _ => true) true n 9 (([c0, c1].drop 0).take (Try.prog.cellsOf 9)) = ([y0, y1] : List (DataW H × List MemPlace))[0]? := hf 0 _ rfl
      rw [show Try.prog.cellsOf 9 = 1 by kernel_rfl] at h'
      exact h'
    have e1 : DataW.trod enc Try.prog w 0 (fun _ => true) true n 9 [c1] = some y1 := by
      have h' : DataW.trod enc Try.prog w 0 (fun _ => true) true n 9 (([c0, c1].drop 1).take (Try.prog.cellsOf 9)) = ([y0, y1] : List (DataW H × List MemPlace))[1]? := hf 1 _ rfl
      rw [show Try.prog.cellsOf 9 = 1 by kernel_rfl] at h'
      exact h'
    obtain ⟨f0, kk0, hg0⟩ := Row.opens_string Try.underlying9 H enc w n _ _ e0 (hz 0 9 _ rfl rfl)
    obtain rfl : c0 = .string f0 := by simpa [Kd.string, Kd.scalar] using kk0
    obtain ⟨f1, kk1, hg1⟩ := Row.opens_string Try.underlying9 H enc w n _ _ e1 (hz 1 9 _ rfl rfl)
    obtain rfl : c1 = .string f1 := by simpa [Kd.string, Kd.scalar] using kk1
    exact ⟨f0, f1, rfl, hg0, hg1⟩
theorem opens_pair : Row.Opens Try.prog 27 k27 (fun p => p.f0.size ≤ 140737488351232 ∧ p.f1.size ≤ 140737488351232) := by
  intro H enc w fuel cs x h hw
  obtain ⟨f0, f1, rfl, g0, g1⟩ := open_pair h hw
  exact ⟨⟨f0, f1⟩, k27_mk _ _, g0, g1⟩
theorem open_ans {H : Type} {enc : TypeId × Value → H} {w : World} {fuel : Nat} {cs : List Value} {x : DataW H × List MemPlace} (h : DataW.trod enc Try.prog w 0 (fun _ => true) true fuel 25 cs = some x) (hw : (x.1.weights Try.prog 25).all (· ≤ reachBytes) = true) :
    ∃ (f0 : Int) (f1 : ByteArray) (Af2 : Option Addr) (Cf2 : Nat) (f2 : List S27), cs = [.int .i64 f0, .string f1, .slice Af2 f2.length Cf2] ∧ (Lit.int .i64 f0).wf = true ∧ f1.size ≤ 140737488351232 ∧ f2.length ≤ Cf2 ∧ (k27).C w Af2 f2.length f2 ∧ (f2.length * 32 ≤ 140737488351232 ∧ ∀ p ∈ f2, p.f0.size ≤ 140737488351232 ∧ p.f1.size ≤ 140737488351232) := by
  obtain ⟨ys, n, _, hx, hlen, hyl, hf⟩ := DataW.trod_struct Try.underlying25 h
  rw [show Try.prog.cellsOf 25 = 3 by kernel_rfl] at hlen
  have hyl' : ys.length = 3 := hyl
  match cs, hlen, ys, hyl' with
  | [c0, c1, c2], _, [y0, y1, y2], _ =>
    have hz : ∀ (j : Nat) (t : TypeId) (d : DataW H), ([22, 9, 23] : List TypeId)[j]? = some t → ([y0.1, y1.1, y2.1] : List (DataW H))[j]? = some d → (d.weights Try.prog t).all (· ≤ reachBytes) = true := by
      intro j t d ht hd
      rw [hx] at hw
      simp only [DataW.weights, Try.underlying25] at hw
      exact Row.mem_weights_each hw ht hd
    have e0 : DataW.trod enc Try.prog w 0 (fun _ => true) true n 22 [c0] = some y0 := by
      have h' : DataW.trod enc Try.prog w 0 (fun _ => true) true n 22 (([c0, c1, c2].drop 0).take (Try.prog.cellsOf 22)) = ([y0, y1, y2] : List (DataW H × List MemPlace))[0]? := hf 0 _ rfl
      rw [show Try.prog.cellsOf 22 = 1 by kernel_rfl] at h'
      exact h'
    have e1 : DataW.trod enc Try.prog w 0 (fun _ => true) true n 9 [c1] = some y1 := by
      have h' : DataW.trod enc Try.prog w 0 (fun _ => true) true n 9 (([c0, c1, c2].drop 1).take (Try.prog.cellsOf 9)) = ([y0, y1, y2] : List (DataW H × List MemPlace))[1]? := hf 1 _ rfl
      rw [show Try.prog.cellsOf 9 = 1 by kernel_rfl] at h'
      exact h'
    have e2 : DataW.trod enc Try.prog w 0 (fun _ => true) true n 23 [c2] = some y2 := by
      have h' : DataW.trod enc Try.prog w 0 (fun _ => true) true n 23 (([c0, c1, c2].drop 2).take (Try.prog.cellsOf 23)) = ([y0, y1, y2] : List (DataW H × List MemPlace))[2]? := hf 2 _ rfl
      rw [show Try.prog.cellsOf 23 = 1 by kernel_rfl] at h'
      exact h'
    obtain ⟨f0, g0, _, hg0⟩ := DataW.trod_int Try.underlying22 e0
    obtain rfl : c0 = _ := by simpa using g0
    obtain ⟨f1, kk1, hg1⟩ := Row.opens_string Try.underlying9 H enc w n _ _ e1 (hz 1 9 _ rfl rfl)
    obtain rfl : c1 = .string f1 := by simpa [Kd.string, Kd.scalar] using kk1
    obtain ⟨f2, kk2, gg2⟩ := (Row.opens_slice z27 Try.underlying23 (by kernel_rfl) (by kernel_rfl : Try.prog.bytesOf 27 = 32) opens_pair) H enc w n _ _ e2 (hz 2 23 _ rfl rfl)
    obtain ⟨Af2, Cf2, g2, hl2, hc2⟩ := kk2
    obtain rfl : c2 = _ := by simpa using g2
    exact ⟨f0, f1, Af2, Cf2, f2, rfl, hg0, hg1, hl2, hc2, gg2⟩
theorem u8_of {x : Int} (h : (Lit.int .u8 x).wf = true) : 0 ≤ x ∧ x ≤ 255 := by simpa [Lit.wf, IntKind.min, IntKind.max, IntKind.signed, IntKind.bits] using h

set_option maxRecDepth 100000 in
theorem lifted (os : Os) (started : os.Started) (H : Type) (enc : TypeId × Value → H) :
    ReturnsInHanded {} Try.checked os 7 .any (Rows.wireCutSpec.pre6 enc Try.prog Try.f7 Rows.wireCutRow.domain false) (Rows.wireCutSpec.post enc Try.prog Try.f7 false true false false) := by
  refine returnsInHanded_of_change_sized (C := Try.checked) own started (by kernel_rfl) Try.func7
    (ChangeSpec.witness6 (enc := enc) (C := Try.checked) false ⟨#[], #[.slice none 0 0, .agg #[.int .i64 0, .string ⟨#[]⟩, .slice none 0 0], .int .u8 0], []⟩ 8 (by kernel_rfl) (by kernel_rfl) (by kernel_rfl) (by kernel_rfl)) ?_
  intro W base args ds gs before hval0 hW hcnd hsz0 _
  have hsz : (DataW.weightsEach Try.prog (Try.f7.params.toList ++ Rows.wireCutSpec.plain.varTypes Try.prog) (ds ++ gs)).all (· ≤ reachBytes) = true := hsz0
  have hval : ∀ (j : Nat) t v, Try.f7.params[j]? = some t → args[j]? = some v → Value.okWide Try.prog W .any base t v := hval0
  have hW' := hW
  obtain ⟨p, q, hA0, hV, rfl, hfz, hnd⟩ := hW
  have hA : DataW.TrodAll enc Try.prog W 0 (fun _ => true) true Try.f7.params.toList args.toList ds p := hA0
  rw [Try.params7] at hA hval hsz
  obtain ⟨v0, vs0, d0, ds0, p0, q0, hargs, rfl, rfl, h0, r0⟩ := trodAll_cons hA
  obtain ⟨v1, vs1, d1, ds1, p1, q1, rfl, rfl, rfl, h1, r1⟩ := trodAll_cons r0
  obtain ⟨v2, vs2, d2, ds2, p2, q2, rfl, rfl, rfl, h2, r2⟩ := trodAll_cons r1
  obtain ⟨rfl, rfl, rfl⟩ := trodAll_nil r2
  obtain rfl : args = #[v0, v1, v2] := by cases args; simp_all
  obtain ⟨rfl, rfl⟩ := trodVars_none hV
  have z0 := Row.mem_weights_each hsz (j := 0) (t := 42) rfl rfl
  obtain ⟨f0, hf0⟩ := h0
  obtain ⟨x0, k0, g0⟩ := (Row.opens_slice Go.Proofs.Ytfpdapdnmkadeaa.O.z52 Try.underlying42 (by kernel_rfl) (by kernel_rfl : Try.prog.bytesOf 52 = 48) opens_op) H enc W f0 _ _ hf0 z0
  obtain ⟨A0, l0, c0, rfl⟩ := okWide_slice Try.underlying42 (hval 0 42 v0 rfl rfl)
  obtain ⟨B0, e0, k0, hc0, hC0⟩ := k0
  obtain ⟨rfl, rfl, rfl⟩ : A0 = B0 ∧ l0 = x0.length ∧ c0 = e0 := by simpa [Value.cells] using k0
  have z1 := Row.mem_weights_each hsz (j := 1) (t := 25) rfl rfl
  obtain ⟨f1, hf1⟩ := h1
  obtain ⟨cs1, rfl, hsz1⟩ := okWide_struct Try.underlying25 (hval 1 25 v1 rfl rfl)
  obtain ⟨x1_f0, x1_f1, Ax1_f2, Cx1_f2, x1_f2, k1, hgx1_f0, hgx1_f1, hlx1_f2, hcx1_f2, ggx1_f2⟩ := open_ans hf1 z1
  obtain rfl : cs1 = #[.int .i64 x1_f0, .string x1_f1, .slice Ax1_f2 x1_f2.length Cx1_f2] := by apply Array.ext'; simpa [Value.cells] using k1
  obtain ⟨a2, rfl, rfl, rfl, w2⟩ := open_int Try.underlying5 (hval 2 5 v2 rfl rfl) h2
  clear hA0 hval0 hsz0
  refine (cut_calls A0 c0 x0 x1_f0 x1_f1 Ax1_f2 Cx1_f2 x1_f2 a2 hC0 hc0 g0.1 hcx1_f2 hlx1_f2 ggx1_f2.1 hgx1_f1 (u8_of w2)).mono fun e W' ⟨he, bel⟩ => ?_
  subst he
  exact ⟨_, rfl, Row.post_true laidOut rfl Try.underlying4 (by rw [Try.params7]; intro t ht; simp at ht; rcases ht with rfl | rfl | rfl <;> exact ⟨by kernel_rfl, of_decide_eq_true (by kernel_rfl)⟩) rfl ⟨rfl, rfl, rfl⟩ hW' bel⟩
theorem over : Rows.wireCutRow.holds Try.pinned (OpenSpec.ofChange Rows.wireCutSpec) :=
  OpenClaim.holds_of_wide 7 Try.f7 rfl rfl rfl rfl rfl rfl rfl ⟨rfl, rfl, rfl, rfl, rfl⟩ rfl rfl rfl rfl rfl (by kernel_rfl) Try.func7 (by kernel_rfl)
    (of_decide_eq_true (by kernel_rfl)) (by unfold Func.isWrapper; first | (rw [if_pos (by decide +kernel)]; kernel_rfl) | (rw [if_neg (by decide +kernel)]; exact ⟨rfl, rfl⟩))
    (fun os started H enc _ => lifted os started H enc)
theorem proved : Rows.WireCutSaid := over
end Go.Proofs.Ytfpdapdnmkadeaa.wireCut
namespace Go.Proofs.Ytfpdapdnmkadeaa
/-- The row, under a short name, for the claim. -/
theorem wireCut_holds : Rows.WireCutSaid := wireCut.proved
#print axioms wireCut_holds
end Go.Proofs.Ytfpdapdnmkadeaa

