/- Each tells each pair that counts, in order, with its row, and ends where it is told to end: proved for every input, at any size. No condition beyond the statement's own. -/
import Derived.Test.YtcdgenoakpmlbaaRows
import Derived.Test.YtcdgenoakpmlbaaRow
import Derived.Test.YtcdgenoakpmlbaaMixEach
namespace Go.Proofs.Ytcdgenoakpmlbaa.mixEach
open Go.ChangeShapes Go.WideShapes Go.ChangeAt Go.RowKit
open Go.ChangeMaps (open_string shut_string)
open Go.Proofs.YtcdgenoakpmlbaaW.PrintWords
open Go.Proofs.Ytcdgenoakpmlbaa.Mix Go.Proofs.Ytcdgenoakpmlbaa.Q
set_option linter.unusedVariables false
theorem own : ownKnob Try.prog.godebug = none := by kernel_rfl
theorem laidOut : laidOutB Try.prog = true := by kernel_rfl
theorem open_pair {H : Type} {enc : TypeId × Value → H} {w : World} {fuel : Nat} {cs : List Value} {x : DataW H × List MemPlace} (h : DataW.trod enc Try.prog w 0 (fun _ => true) true fuel 32 cs = some x) (hw : (x.1.weights Try.prog 32).all (· ≤ reachBytes) = true) :
    ∃ (f0 : ByteArray) (f1 : ByteArray), cs = [.string f0, .string f1] ∧ f0.size ≤ 140737488351232 ∧ f1.size ≤ 140737488351232 := by
  obtain ⟨ys, n, _, hx, hlen, hyl, hf⟩ := DataW.trod_struct Try.underlying32 h
  rw [show Try.prog.cellsOf 32 = 2 by kernel_rfl] at hlen
  have hyl' : ys.length = 2 := hyl
  match cs, hlen, ys, hyl' with
  | [c0, c1], _, [y0, y1], _ =>
    have hz : ∀ (j : Nat) (t : TypeId) (d : DataW H), ([9, 9] : List TypeId)[j]? = some t → ([y0.1, y1.1] : List (DataW H))[j]? = some d → (d.weights Try.prog t).all (· ≤ reachBytes) = true := by
      intro j t d ht hd
      rw [hx] at hw
      simp only [DataW.weights, Try.underlying32] at hw
      exact Row.mem_weights_each hw ht hd
    have e0 : DataW.trod enc Try.prog w 0 (fun _ => true) true n 9 [c0] = some y0 := by
      have h' : DataW.trod enc Try.prog w 0 (fun _ => true) true n 9 (([c0, c1].drop 0).take (Try.prog.cellsOf 9)) = ([y0, y1] : List (DataW H × List MemPlace))[0]? := hf 0 _ rfl
      rw [show Try.prog.cellsOf 9 = 1 by kernel_rfl] at h'
      exact h'
    have e1 : DataW.trod enc Try.prog w 0 (fun _ => true) true n 9 [c1] = some y1 := by
      have h' : DataW.trod enc Try.prog w 0 (fun _ => true) true n 9 (([c0, c1].drop 1).take (Try.prog.cellsOf 9)) = ([y0, y1] : List (DataW H × List MemPlace))[1]? := hf 1 _ rfl
      rw [show Try.prog.cellsOf 9 = 1 by kernel_rfl] at h'
      exact h'
    obtain ⟨f0, kk0, hg0⟩ := Row.opens_string Try.underlying9 H enc w n _ _ e0 (hz 0 9 _ rfl rfl)
    obtain rfl : c0 = .string f0 := by simpa [Kd.string, Kd.scalar] using kk0
    obtain ⟨f1, kk1, hg1⟩ := Row.opens_string Try.underlying9 H enc w n _ _ e1 (hz 1 9 _ rfl rfl)
    obtain rfl : c1 = .string f1 := by simpa [Kd.string, Kd.scalar] using kk1
    exact ⟨f0, f1, rfl, hg0, hg1⟩
theorem opens_pair : Row.Opens Try.prog 32 k32 (fun p => p.f0.size ≤ 140737488351232 ∧ p.f1.size ≤ 140737488351232) := by
  intro H enc w fuel cs x h hw
  obtain ⟨f0, f1, rfl, g0, g1⟩ := open_pair h hw
  exact ⟨⟨f0, f1⟩, k32.K_of_M (k32_mkM w 0 (fun _ => True) _), g0, g1⟩
theorem few_of {l : List S32} (h : l.length * 32 ≤ 140737488351232 ∧ ∀ p ∈ l, p.f0.size ≤ 140737488351232 ∧ p.f1.size ≤ 140737488351232) : Few l := ⟨by omega, fun p hp => by have := (h.2 p hp).1; omega⟩
theorem fewR_of {rows : List (List S32)} (h : rows.length * 24 ≤ 140737488351232 ∧ ∀ l ∈ rows, l.length * 32 ≤ 140737488351232 ∧ ∀ p ∈ l, p.f0.size ≤ 140737488351232 ∧ p.f1.size ≤ 140737488351232) : FewR rows := ⟨by omega, fun l hl => few_of (h.2 l hl)⟩

set_option maxRecDepth 100000 in
theorem lifted (os : Os) (started : os.Started) (H : Type) (enc : TypeId × Value → H) :
    ReturnsInHanded {} Try.checked os 4 .any (Rows.mixEachSpec.pre6 enc Try.prog Try.f4 Rows.mixEachRow.domain false) (Rows.mixEachSpec.post enc Try.prog Try.f4 false true false false) := by
  refine returnsInHanded_of_change_sized (C := Try.checked) own started (by kernel_rfl) Try.func4
    (ChangeSpec.witness6 (enc := enc) (C := Try.checked) false ⟨#[], #[.slice none 0 0, .int .u8 0], []⟩ 8 (by kernel_rfl) (by kernel_rfl) (by kernel_rfl) (by kernel_rfl)) ?_
  intro W base args ds gs before hval0 hW hcnd hsz0 _
  have hsz : (DataW.weightsEach Try.prog (Try.f4.params.toList ++ Rows.mixEachSpec.plain.varTypes Try.prog) (ds ++ gs)).all (· ≤ reachBytes) = true := hsz0
  have hval : ∀ (j : Nat) t v, Try.f4.params[j]? = some t → args[j]? = some v → Value.okWide Try.prog W .any base t v := hval0
  have hW' := hW
  obtain ⟨p, q, hA0, hV, rfl, hfz, hnd⟩ := hW
  have hA : DataW.TrodAll enc Try.prog W 0 (fun _ => true) true Try.f4.params.toList args.toList ds p := hA0
  rw [Try.params4] at hA hval hsz
  obtain ⟨v0, vs0, d0, ds0, p0, q0, hargs, rfl, rfl, h0, r0⟩ := trodAll_cons hA
  obtain ⟨v1, vs1, d1, ds1, p1, q1, rfl, rfl, rfl, h1, r1⟩ := trodAll_cons r0
  obtain ⟨rfl, rfl, rfl⟩ := trodAll_nil r1
  obtain rfl : args = #[v0, v1] := by cases args; simp_all
  obtain ⟨rfl, rfl⟩ := trodVars_none hV
  have z0 := Row.mem_weights_each hsz (j := 0) (t := 22) rfl rfl
  obtain ⟨f0, hf0⟩ := h0
  obtain ⟨x0, k0, g0⟩ := (Row.opens_slice ([] : List S32) Try.underlying22 (by kernel_rfl) (by kernel_rfl : Try.prog.bytesOf 25 = 24) (Row.opens_slice z32 Try.underlying25 (by kernel_rfl) (by kernel_rfl : Try.prog.bytesOf 32 = 32) opens_pair)) H enc W f0 _ _ hf0 z0
  obtain ⟨A0, l0, c0, rfl⟩ := okWide_slice Try.underlying22 (hval 0 22 v0 rfl rfl)
  obtain ⟨B0, e0, k0, hc0, hC0⟩ := k0
  obtain ⟨rfl, rfl, rfl⟩ : A0 = B0 ∧ l0 = x0.length ∧ c0 = e0 := by simpa [Value.cells] using k0
  obtain ⟨a1, rfl, rfl, rfl, w1⟩ := open_int Try.underlying5 (hval 1 5 v1 rfl rfl) h1
  clear hA0 hval0 hsz0
  have hst : 0 ≤ a1 ∧ a1 ≤ 255 := by simpa [Lit.wf, IntKind.min, IntKind.max, IntKind.signed, IntKind.bits] using w1
  obtain ⟨m1, hm1⟩ := Int.eq_ofNat_of_zero_le hst.1
  subst hm1
  refine (mixEach_calls (stop := m1) hC0 hc0 (fewR_of g0) (by omega)).mono fun e W' ⟨he, bel⟩ => ?_
  subst he
  exact ⟨_, rfl, Row.post_true laidOut rfl Try.underlying4 (by rw [Try.params4]; intro t ht; simp at ht; rcases ht with rfl | rfl <;> exact ⟨by kernel_rfl, of_decide_eq_true (by kernel_rfl)⟩) rfl ⟨rfl, rfl, rfl⟩ hW' bel⟩
theorem over : Rows.mixEachRow.holds Try.pinned (OpenSpec.ofChange Rows.mixEachSpec) :=
  OpenClaim.holds_of_wide 4 Try.f4 rfl rfl rfl rfl rfl rfl rfl ⟨rfl, rfl, rfl, rfl, rfl⟩ rfl rfl rfl rfl rfl (by kernel_rfl) Try.func4 (by kernel_rfl)
    (of_decide_eq_true (by kernel_rfl)) (by unfold Func.isWrapper; first | (rw [if_pos (by decide +kernel)]; kernel_rfl) | (rw [if_neg (by decide +kernel)]; exact ⟨rfl, rfl⟩))
    (fun os started H enc _ => lifted os started H enc)
theorem proved : Rows.MixEachSaid := over
end Go.Proofs.Ytcdgenoakpmlbaa.mixEach
namespace Go.Proofs.Ytcdgenoakpmlbaa
/-- The row, under a short name, for the claim. -/
theorem mixEach_holds : Rows.MixEachSaid := mixEach.proved
#print axioms mixEach_holds
end Go.Proofs.Ytcdgenoakpmlbaa

