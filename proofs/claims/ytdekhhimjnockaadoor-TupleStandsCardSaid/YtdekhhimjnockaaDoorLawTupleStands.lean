/- The keys of any two tuples stand as these do: proved for every input, at any size. No condition beyond the statement's own. -/
import Derived.SevenTiedAt
import Derived.LaidMore
import Derived.Test.YtdekhhimjnockaaDoorRows
import Derived.Test.YtdekhhimjnockaaDoorCards
import Derived.Test.YtdekhhimjnockaaDoorTie
import Derived.Test.YtdekhhimjnockaaDoorRow
import Derived.Test.YtdekhhimjnockaaDoorTuWorld
import Derived.Test.YtdekhhimjnockaaDoorTuStands
namespace Go.Proofs.YtdekhhimjnockaaDoor.tupleStands
open Go.ChangeShapes Go.WideShapes Go.ChangeAt Go.RowKit
open Go.ChangeMaps (open_string shut_string)
open Go.Proofs.YtdekhhimjnockaaDoorW.PrintWords
open Go.Proofs.YtdekhhimjnockaaDoor.Tu Go.Proofs.YtdekhhimjnockaaDoor.Q
set_option linter.unusedVariables false
theorem own : ownKnob Tryd.prog.godebug = none := by kernel_rfl
theorem laidOut : laidOutB Tryd.prog = true := by kernel_rfl
theorem open_part {H : Type} {enc : TypeId × Value → H} {w : World} {fuel : Nat} {cs : List Value} {x : DataW H × List MemPlace} (h : DataW.trod enc Tryd.prog w 0 (fun _ => true) true fuel 45 cs = some x) (hw : (x.1.weights Tryd.prog 45).all (· ≤ reachBytes) = true) :
    ∃ (f0 : Bool) (f1 : Int) (f2 : ByteArray), cs = [.bool f0, .int .u64 f1, .string f2] ∧ (Lit.int .u64 f1).wf = true ∧ f2.size ≤ 140737488351232 := by
  obtain ⟨ys, n, _, hx, hlen, hyl, hf⟩ := DataW.trod_struct Tryd.underlying45 h
  rw [show Tryd.prog.cellsOf 45 = 3 by kernel_rfl] at hlen
  have hyl' : ys.length = 3 := hyl
  match cs, hlen, ys, hyl' with
  | [c0, c1, c2], _, [y0, y1, y2], _ =>
    have hz : ∀ (j : Nat) (t : TypeId) (d : DataW H), ([4, 43, 9] : List TypeId)[j]? = some t → ([y0.1, y1.1, y2.1] : List (DataW H))[j]? = some d → (d.weights Tryd.prog t).all (· ≤ reachBytes) = true := by
      intro j t d ht hd
      rw [hx] at hw
      simp only [DataW.weights, Tryd.underlying45] at hw
      exact Row.mem_weights_each hw ht hd
    have e0 : DataW.trod enc Tryd.prog w 0 (fun _ => true) true n 4 [c0] = some y0 := by
      have h' : DataW.trod enc Tryd.prog w 0 (fun _ => true) true n 4 (([c0, c1, c2].drop 0).take (Tryd.prog.cellsOf 4)) = ([y0, y1, y2] : List (DataW H × List MemPlace))[0]? := hf 0 _ rfl
      rw [show Tryd.prog.cellsOf 4 = 1 by kernel_rfl] at h'
      exact h'
    have e1 : DataW.trod enc Tryd.prog w 0 (fun _ => true) true n 43 [c1] = some y1 := by
      have h' : DataW.trod enc Tryd.prog w 0 (fun _ => true) true n 43 (([c0, c1, c2].drop 1).take (Tryd.prog.cellsOf 43)) = ([y0, y1, y2] : List (DataW H × List MemPlace))[1]? := hf 1 _ rfl
      rw [show Tryd.prog.cellsOf 43 = 1 by kernel_rfl] at h'
      exact h'
    have e2 : DataW.trod enc Tryd.prog w 0 (fun _ => true) true n 9 [c2] = some y2 := by
      have h' : DataW.trod enc Tryd.prog w 0 (fun _ => true) true n 9 (([c0, c1, c2].drop 2).take (Tryd.prog.cellsOf 9)) = ([y0, y1, y2] : List (DataW H × List MemPlace))[2]? := hf 2 _ rfl
      rw [show Tryd.prog.cellsOf 9 = 1 by kernel_rfl] at h'
      exact h'
    obtain ⟨f0, g0, _⟩ := DataW.trod_bool Tryd.underlying4 e0
    obtain rfl : c0 = _ := by simpa using g0
    obtain ⟨f1, g1, _, hg1⟩ := DataW.trod_int Tryd.underlying43 e1
    obtain rfl : c1 = _ := by simpa using g1
    obtain ⟨f2, kk2, hg2⟩ := Row.opens_string Tryd.underlying9 H enc w n _ _ e2 (hz 2 9 _ rfl rfl)
    obtain rfl : c2 = .string f2 := by simpa [Kd.string, Kd.scalar] using kk2
    exact ⟨f0, f1, f2, rfl, hg1, hg2⟩
theorem wf64 {x : Int} (h : (Lit.int .u64 x).wf = true) : 0 ≤ x ∧ x < 18446744073709551616 := by
  have h1 : IntKind.u64.min = 0 := rfl
  have h2 : IntKind.u64.max = 18446744073709551615 := rfl
  simp only [Lit.wf, Bool.and_eq_true, decide_eq_true_eq] at h
  omega
theorem opens_part : Row.Opens Tryd.prog 45 k45 (fun p => 0 ≤ p.f1 ∧ p.f1 < 18446744073709551616) := by
  intro H enc w fuel cs x h hw
  obtain ⟨f0, f1, f2, rfl, g1, g2⟩ := open_part h hw
  exact ⟨⟨f0, f1, f2⟩, k45.K_of_M (k45_mkM w 0 (fun _ => True) _), wf64 g1⟩
theorem num_of {l : List S45} (h : l.length * 32 ≤ 140737488351232 ∧ ∀ p ∈ l, 0 ≤ p.f1 ∧ p.f1 < 18446744073709551616) : Num64 l := ⟨by omega, h.2⟩

set_option maxRecDepth 100000 in
theorem lifted (os : Os) (started : os.Started) (H : Type) (enc : TypeId × Value → H) :
    ReturnsInHanded {} Tryd.checked os 6 .any (fun w args => (Rows.tupleStandsSpec.pre enc Tryd.prog Tryd.f6 [] false w args ∧ laidMetH Tryd.prog Tu.laid w) ∧ sizedMet enc Tryd.prog Tryd.f6 (OpenSpec.ofChange Rows.tupleStandsSpec) false w args) (Rows.tupleStandsSpec.post enc Tryd.prog Tryd.f6 false true false false) := by
  refine tuHanded (C := Tryd.checked) (X := fun w _ => laidMetH Tryd.prog Tu.laid w) own started (by kernel_rfl) Tryd.func6
    (ChangeSpec.witness_shaped (enc := enc) (C := Tryd.checked) (os := os) (X := fun w _ => laidMetH Tryd.prog Tu.laid w) false (Tu.laidWorld os) #[.slice none 0 0, .slice none 0 0] 8 rfl (World.shaped_of_RefB (by kernel_rfl) (by kernel_rfl)) (by kernel_rfl) (by kernel_rfl) (by kernel_rfl) (Tu.laid_met os _)) ?_
  intro W base args ds gs before hval0 hW hcnd hsz0 hsh
  have hmx := Tu.max_of hsh
  have hsz : (DataW.weightsEach Tryd.prog (Tryd.f6.params.toList ++ Rows.tupleStandsSpec.plain.varTypes Tryd.prog) (ds ++ gs)).all (· ≤ reachBytes) = true := hsz0
  have hval : ∀ (j : Nat) t v, Tryd.f6.params[j]? = some t → args[j]? = some v → Value.okWide Tryd.prog W .any base t v := hval0
  have hW' := hW
  obtain ⟨p, q, hA0, hV, rfl, hfz, hnd⟩ := hW
  have hA : DataW.TrodAll enc Tryd.prog W 0 (fun _ => true) true Tryd.f6.params.toList args.toList ds p := hA0
  rw [Tryd.params6] at hA hval hsz
  obtain ⟨v0, vs0, d0, ds0, p0, q0, hargs, rfl, rfl, h0, r0⟩ := trodAll_cons hA
  obtain ⟨v1, vs1, d1, ds1, p1, q1, rfl, rfl, rfl, h1, r1⟩ := trodAll_cons r0
  obtain ⟨rfl, rfl, rfl⟩ := trodAll_nil r1
  obtain rfl : args = #[v0, v1] := by cases args; simp_all
  obtain ⟨rfl, rfl⟩ := trodVars_none hV
  have z0 := Row.mem_weights_each hsz (j := 0) (t := 23) rfl rfl
  obtain ⟨f0, hf0⟩ := h0
  obtain ⟨x0, k0, g0⟩ := (Row.opens_slice z45 Tryd.underlying23 (by kernel_rfl) (by kernel_rfl : Tryd.prog.bytesOf 45 = 32) opens_part) H enc W f0 _ _ hf0 z0
  obtain ⟨A0, l0, c0, rfl⟩ := okWide_slice Tryd.underlying23 (hval 0 23 v0 rfl rfl)
  obtain ⟨B0, e0, k0, hc0, hC0⟩ := k0
  obtain ⟨rfl, rfl, rfl⟩ : A0 = B0 ∧ l0 = x0.length ∧ c0 = e0 := by simpa [Value.cells] using k0
  have z1 := Row.mem_weights_each hsz (j := 1) (t := 23) rfl rfl
  obtain ⟨f1, hf1⟩ := h1
  obtain ⟨x1, k1, g1⟩ := (Row.opens_slice z45 Tryd.underlying23 (by kernel_rfl) (by kernel_rfl : Tryd.prog.bytesOf 45 = 32) opens_part) H enc W f1 _ _ hf1 z1
  obtain ⟨A1, l1, c1, rfl⟩ := okWide_slice Tryd.underlying23 (hval 1 23 v1 rfl rfl)
  obtain ⟨B1, e1, k1, hc1, hC1⟩ := k1
  obtain ⟨rfl, rfl, rfl⟩ : A1 = B1 ∧ l1 = x1.length ∧ c1 = e1 := by simpa [Value.cells] using k1
  clear hA0 hval0 hsz0
  refine (stands_law hC0 hc0 (num_of g0) hC1 hc1 (num_of g1) hmx).mono fun e W' ⟨he, bel⟩ => ?_
  subst he
  exact ⟨_, rfl, Row.post_true laidOut rfl Tryd.underlying4 (by rw [Tryd.params6]; intro t ht; simp at ht; rcases ht with rfl <;> exact ⟨by kernel_rfl, of_decide_eq_true (by kernel_rfl)⟩) rfl ⟨rfl, rfl, rfl⟩ hW' bel⟩
theorem over : Rows.tupleStandsRow.holds Tryd.pinned (OpenSpec.ofChange Rows.tupleStandsSpec) :=
  OpenClaim.holds_of_wide 6 Tryd.f6 rfl rfl rfl rfl rfl rfl rfl ⟨rfl, rfl, rfl, rfl, rfl⟩ rfl rfl rfl rfl rfl (by kernel_rfl) Tryd.func6 (by kernel_rfl)
    (of_decide_eq_true (by kernel_rfl)) (by unfold Func.isWrapper; first | (rw [if_pos (by decide +kernel)]; kernel_rfl) | (rw [if_neg (by decide +kernel)]; exact ⟨rfl, rfl⟩))
    (fun os started H enc _ => lifted os started H enc)
theorem card : Rows.TupleStandsCardSaid :=
  Claim7.holds_tied_plain_at .later [] [.data, .pinned] true (true, "7be912b9683a3bb697de7dba5126dadd782d934560ddb181ec3c8b3461101554") false
    over (fun _ h => by cases h) (by kernel_rfl) (fun _ h => by cases h) tupleStands_row_tie rfl ⟨rfl, rfl⟩ (by kernel_rfl) rfl
    (fun f fn hf hfn => by
      obtain rfl : f = 6 := Option.some.inj ((show Tryd.prog.funcNamed Rows.tupleStandsRow.func = some 6 by kernel_rfl).symm.trans hf) |>.symm
      obtain rfl : fn = Tryd.f6 := (Option.some.inj (Tryd.func6.symm.trans hfn)).symm
      exact ⟨by kernel_rfl, fun j t ht => by
        rw [Tryd.params6] at ht
        have hm : t ∈ [23, 23] := by simpa using Array.mem_of_getElem? ht
        have hall : ([23, 23].all fun u => !Tryd.prog.wantsStandIn u) = true := by kernel_rfl
        exact (show Tryd.prog.wantsStandIn t = false by simpa using List.all_eq_true.1 hall t hm)⟩)
    (by kernel_rfl)
end Go.Proofs.YtdekhhimjnockaaDoor.tupleStands
namespace Go.Proofs.YtdekhhimjnockaaDoor
/-- The card, under a short name, for the claim. -/
theorem tupleStands_card : Rows.TupleStandsCardSaid := tupleStands.card
#print axioms tupleStands_card
end Go.Proofs.YtdekhhimjnockaaDoor

