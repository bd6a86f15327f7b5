/- An answer's bytes: written as the reference has them where it can be told, none where not, and read back as the same answer: proved for every answer, at any size. No condition beyond the statement's own. -/
import Derived.Test.YtfpdapdnmkadeaaRows
import Derived.Test.YtfpdapdnmkadeaaRow
import Derived.Test.YtfpdapdnmkadeaaWireAns
namespace Go.Proofs.Ytfpdapdnmkadeaa.wireAnswers
open Go.ChangeShapes Go.WideShapes Go.ChangeAt Go.RowKit
open Go.ChangeMaps (open_string shut_string)
open Go.Proofs.YtfpdapdnmkadeaaW.PrintWords
open Go.Proofs.Ytfpdapdnmkadeaa.Wire Go.Proofs.Ytfpdapdnmkadeaa.Word Go.Proofs.Ytfpdapdnmkadeaa.Q
set_option linter.unusedVariables false
theorem own : ownKnob Try.prog.godebug = none := by kernel_rfl
theorem laidOut : laidOutB Try.prog = true := by kernel_rfl
theorem open_pair {H : Type} {enc : TypeId × Value → H} {w : World} {fuel : Nat} {cs : List Value} {x : DataW H × List MemPlace} (h : DataW.trod enc Try.prog w 0 (fun _ => true) true fuel 27 cs = some x) (hw : (x.1.weights Try.prog 27).all (· ≤ reachBytes) = true) :
    ∃ (f0 : ByteArray) (f1 : ByteArray), cs = [.string f0, .string f1] ∧ f0.size ≤ 140737488351232 ∧ f1.size ≤ 140737488351232 := by
  obtain ⟨ys, n, _, hx, hlen, hyl, hf⟩ := DataW.trod_struct Try.underlying27 h
  rw [show Try.prog.cellsOf 27 = 2 by kernel_rfl] at hlen
  have hyl' : ys.length = 2 := hyl
  match cs, hlen, ys, hyl' with
  | [c0, c1], _, [y0, y1], _ =>
    have hz : ∀ (j : Nat) (t : TypeId) (d : DataW H), ([9, 9] : List TypeId)[j]? = some t → ([y0.1, y1.1] : List (DataW H))[j]? = some d → (d.weights Try.prog t).all (· ≤ reachBytes) = true := by
      intro j t d ht hd
      rw [hx] at hw
      simp only [DataW.weights, Try.underlying27] at hw
      exact Row.mem_weights_each hw ht hd
    have e0 : DataW.trod enc Try.prog w 0 (fun _ => true) true n 9 [c0] = some y0 := by
      have h' : DataW.trod enc Try.prog w 0 (fun _ => true) true n 9 (([c0, c1].drop 0).take (Try.prog.cellsOf 9)) = ([y0, y1] : List (DataW H × List MemPlace))[0]? := hf 0 _ rfl
      rw [show Try.prog.cellsOf 9 = 1 by kernel_rfl] at h'
      exact h'
    have e1 : DataW.trod enc Try.prog w 0 (fun _ => true) true n 9 [c1] = some y1 := by
      have h' : DataW.trod enc Try.prog w 0 (fun _ => true) true n 9 (([c0, c1].drop 1).take (Try.prog.cellsOf 9)) = ([y0, y1] : List (DataW H × List MemPlace))[1]? := hf 1 _ rfl
      rw [show Try.prog.cellsOf 9 = 1 by kernel_rfl] at h'
      exact h'
    obtain ⟨f0, kk0, hg0⟩ := Row.opens_string Try.underlying9 H enc w n _ _ e0 (hz 0 9 _ rfl rfl)
    obtain rfl : c0 = .string f0 := by simpa [Kd.string, Kd.scalar] using kk0
    obtain ⟨f1, kk1, hg1⟩ := Row.opens_string Try.underlying9 H enc w n _ _ e1 (hz 1 9 _ rfl rfl)
    obtain rfl : c1 = .string f1 := by simpa [Kd.string, Kd.scalar] using kk1
    exact ⟨f0, f1, rfl, hg0, hg1⟩
theorem opens_pair : Row.Opens Try.prog 27 k27 (fun p => p.f0.size ≤ 140737488351232 ∧ p.f1.size ≤ 140737488351232) := by
  intro H enc w fuel cs x h hw
  obtain ⟨f0, f1, rfl, g0, g1⟩ := open_pair h hw
  exact ⟨⟨f0, f1⟩, k27_mk _ _, g0, g1⟩
theorem open_ans {H : Type} {enc : TypeId × Value → H} {w : World} {fuel : Nat} {cs : List Value} {x : DataW H × List MemPlace} (h : DataW.trod enc Try.prog w 0 (fun _ => true) true fuel 25 cs = some x) (hw : (x.1.weights Try.prog 25).all (· ≤ reachBytes) = true) :
    ∃ (f0 : Int) (f1 : ByteArray) (Af2 : Option Addr) (Cf2 : Nat) (f2 : List S27), cs = [.int .i64 f0, .string f1, .slice Af2 f2.length Cf2] ∧ (Lit.int .i64 f0).wf = true ∧ f1.size ≤ 140737488351232 ∧ f2.length ≤ Cf2 ∧ (k27).C w Af2 f2.length f2 ∧ (f2.length * 32 ≤ 140737488351232 ∧ ∀ p ∈ f2, p.f0.size ≤ 140737488351232 ∧ p.f1.size ≤ 140737488351232) := by
  obtain ⟨ys, n, _, hx, hlen, hyl, hf⟩ := DataW.trod_struct Try.underlying25 h
  rw [show Try.prog.cellsOf 25 = 3 by kernel_rfl] at hlen
  have hyl' : ys.length = 3 := hyl
  match cs, hlen, ys, hyl' with
  | [c0, c1, c2], _, [y0, y1, y2], _ =>
    have hz : ∀ (j : Nat) (t : TypeId) (d : DataW H), ([22, 9, 23] : List TypeId)[j]? = some t → ([y0.1, y1.1, y2.1] : List (DataW H))[j]? = some d → (d.weights Try.prog t).all (· ≤ reachBytes) = true := by
      intro j t d ht hd
      rw [hx] at hw
      simp only [DataW.weights, Try.underlying25] at hw
      exact Row.mem_weights_each hw ht hd
    have e0 : DataW.trod enc Try.prog w 0 (fun _ => true) true n 22 [c0] = some y0 := by
      have h' : DataW.trod enc Try.prog w 0 (fun _ => true) true n 22 (([c0, c1, c2].drop 0).take (Try.prog.cellsOf 22)) = ([y0, y1, y2] : List (DataW H × List MemPlace))[0]? := hf 0 _ rfl
      rw [show Try.prog.cellsOf 22 = 1 by kernel_rfl] at h'
      exact h'
    have e1 : DataW.trod enc Try.prog w 0 (fun _ => true) true n 9 [c1] = some y1 := by
      have h' : DataW.trod enc Try.prog w 0 (fun _ => true) true n 9 (([c0, c1, c2].drop 1).take (Try.prog.cellsOf 9)) = ([y0, y1, y2] : List (DataW H × List MemPlace))[1]? := hf 1 _ rfl
      rw [show Try.prog.cellsOf 9 = 1 by kernel_rfl] at h'
      exact h'
    have e2 : DataW.trod enc Try.prog w 0 (fun _ => true) true n 23 [c2] = some y2 := by
      have h' : DataW.trod enc Try.prog w 0 (fun _ => true) true n 23 (([c0, c1, c2].drop 2).take (Try.prog.cellsOf 23)) = ([y0, y1, y2] : List (DataW H × List MemPlace))[2]? := hf 2 _ rfl
      rw [show Try.prog.cellsOf 23 = 1 by kernel_rfl] at h'
      exact h'
    obtain ⟨f0, g0, _, hg0⟩ := DataW.trod_int Try.underlying22 e0
    obtain rfl : c0 = _ := by simpa using g0
    obtain ⟨f1, kk1, hg1⟩ := Row.opens_string Try.underlying9 H enc w n _ _ e1 (hz 1 9 _ rfl rfl)
    obtain rfl : c1 = .string f1 := by simpa [Kd.string, Kd.scalar] using kk1
    obtain ⟨f2, kk2, gg2⟩ := (Row.opens_slice z27 Try.underlying23 (by kernel_rfl) (by kernel_rfl : Try.prog.bytesOf 27 = 32) opens_pair) H enc w n _ _ e2 (hz 2 23 _ rfl rfl)
    obtain ⟨Af2, Cf2, g2, hl2, hc2⟩ := kk2
    obtain rfl : c2 = _ := by simpa using g2
    exact ⟨f0, f1, Af2, Cf2, f2, rfl, hg0, hg1, hl2, hc2, gg2⟩
set_option maxRecDepth 100000 in
theorem lifted (os : Os) (started : os.Started) (H : Type) (enc : TypeId × Value → H) :
    ReturnsInHanded {} Try.checked os 3 .any (Rows.wireAnswersSpec.pre6 enc Try.prog Try.f3 Rows.wireAnswersRow.domain false) (Rows.wireAnswersSpec.post enc Try.prog Try.f3 false true false false) := by
  refine returnsInHanded_of_change_sized (C := Try.checked) own started (by kernel_rfl) Try.func3
    (ChangeSpec.witness6 (enc := enc) (C := Try.checked) false ⟨#[], #[.agg #[.int .i64 0, .string ⟨#[]⟩, .slice none 0 0]], []⟩ 8 (by kernel_rfl) (by kernel_rfl) (by kernel_rfl) (by kernel_rfl)) ?_
  intro W base args ds gs before hval0 hW hcnd hsz0 _
  have hsz : (DataW.weightsEach Try.prog (Try.f3.params.toList ++ Rows.wireAnswersSpec.plain.varTypes Try.prog) (ds ++ gs)).all (· ≤ reachBytes) = true := hsz0
  have hval : ∀ (j : Nat) t v, Try.f3.params[j]? = some t → args[j]? = some v → Value.okWide Try.prog W .any base t v := hval0
  have hW' := hW
  obtain ⟨p, q, hA0, hV, rfl, hfz, hnd⟩ := hW
  have hA : DataW.TrodAll enc Try.prog W 0 (fun _ => true) true Try.f3.params.toList args.toList ds p := hA0
  rw [Try.params3] at hA hval hsz
  obtain ⟨v0, vs0, d0, ds0, p0, q0, hargs, rfl, rfl, h0, r0⟩ := trodAll_cons hA
  obtain ⟨rfl, rfl, rfl⟩ := trodAll_nil r0
  obtain rfl : args = #[v0] := by cases args; simp_all
  obtain ⟨rfl, rfl⟩ := trodVars_none hV
  have z0 := Row.mem_weights_each hsz (j := 0) (t := 25) rfl rfl
  obtain ⟨f0, hf0⟩ := h0
  obtain ⟨cs0, rfl, hsz0⟩ := okWide_struct Try.underlying25 (hval 0 25 v0 rfl rfl)
  obtain ⟨x0_f0, x0_f1, Ax0_f2, Cx0_f2, x0_f2, k0, hgx0_f0, hgx0_f1, hlx0_f2, hcx0_f2, ggx0_f2⟩ := open_ans hf0 z0
  obtain rfl : cs0 = #[.int .i64 x0_f0, .string x0_f1, .slice Ax0_f2 x0_f2.length Cx0_f2] := by apply Array.ext'; simpa [Value.cells] using k0
  clear hA0 hval0 hsz0
  refine (answers_calls x0_f0 x0_f1 Ax0_f2 Cx0_f2 x0_f2 hgx0_f1 ggx0_f2.2 hcx0_f2 hlx0_f2).mono fun e W' ⟨he, bel⟩ => ?_
  subst he
  exact ⟨_, rfl, Row.post_true laidOut rfl Try.underlying4 (by rw [Try.params3]; intro t ht; simp at ht; rcases ht with rfl <;> exact ⟨by kernel_rfl, of_decide_eq_true (by kernel_rfl)⟩) rfl ⟨rfl, rfl, rfl⟩ hW' bel⟩
theorem over : Rows.wireAnswersRow.holds Try.pinned (OpenSpec.ofChange Rows.wireAnswersSpec) :=
  OpenClaim.holds_of_wide 3 Try.f3 rfl rfl rfl rfl rfl rfl rfl ⟨rfl, rfl, rfl, rfl, rfl⟩ rfl rfl rfl rfl rfl (by kernel_rfl) Try.func3 (by kernel_rfl)
    (of_decide_eq_true (by kernel_rfl)) (by unfold Func.isWrapper; first | (rw [if_pos (by decide +kernel)]; kernel_rfl) | (rw [if_neg (by decide +kernel)]; exact ⟨rfl, rfl⟩))
    (fun os started H enc _ => lifted os started H enc)
theorem proved : Rows.WireAnswersSaid := over
end Go.Proofs.Ytfpdapdnmkadeaa.wireAnswers
namespace Go.Proofs.Ytfpdapdnmkadeaa
/-- The row, under a short name, for the claim. -/
theorem wireAnswers_holds : Rows.WireAnswersSaid := wireAnswers.proved
#print axioms wireAnswers_holds
end Go.Proofs.Ytfpdapdnmkadeaa

