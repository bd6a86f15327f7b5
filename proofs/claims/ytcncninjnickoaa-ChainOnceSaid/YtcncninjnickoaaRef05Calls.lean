/- The reference's functions of rows, as contracts over lists. -/
import Derived.Test.YtcncninjnickoaaRef05
import Derived.Test.YtcncninjnickoaaVals
namespace Go.Proofs.Ytcncninjnickoaa.Chain
open Go.RowKit Go.Proofs.YtcncninjnickoaaW.PrintWords Go.Proofs.YtcncninjnickoaaW.PrintLast Go.Proofs.YtcncninjnickoaaW.PrintMore
open Go.Proofs.Ytcncninjnickoaa Go.Proofs.Ytcncninjnickoaa.Vals
set_option linter.unusedVariables false
set_option linter.unusedSimpArgs false

abbrev Ints := IsL (Kd.int .i64)
theorem drawn_below {w w' : World} (h : Drawn0 w w') : Below w.heap.size w w' := by
  obtain ⟨n, rfl⟩ := h.out
  exact pw_below_drewN (Below.refl _ _) n
theorem r_ints {w : World} {b : Nat} {ok : Nat → Prop} {v : Value} {l : List Int} {e : Nat} (h : Kd.R (Kd.int .i64) e w b ok v l) : Ints l v w := by
  obtain ⟨A, c, rfl, hc, hC⟩ := Kd.R_reads h
  exact IsL.mk hc hC
theorem same_calls {w : World} {v1 v2 : Value} {a b : List Int} (h1 : Ints a v1 w) (h2 : Ints b v2 w) (hl : a.length < 1099511627776) : Calls Try.prog 10 #[v1, v2] w fun e w' => e = .returned (.bool (decide (a = b))) ∧ Below w.heap.size w w' := by
  obtain ⟨A, c, rfl, hc, hC⟩ := h1.out
  obtain ⟨A2, c2, rfl, hc2, hC2⟩ := h2.out
  refine (Q.sluicegateref05_Same.calls (a.length + 1) A c a A2 c2 b _ w hC hc hC2 hc2 (Q.same_f _ a b (by omega) (by omega))).mono ?_
  rintro e w' ⟨rfl, hd⟩
  exact ⟨rfl, drawn_below hd⟩
theorem rhas_calls {w : World} {v1 : Value} {a : List Int} {x : Int} (h1 : Ints a v1 w) (hl : a.length < 1099511627776) : Calls Try.prog 17 #[v1, .int .i64 x] w fun e w' => e = .returned (.bool (decide (x ∈ a))) ∧ Below w.heap.size w w' := by
  obtain ⟨A, c, rfl, hc, hC⟩ := h1.out
  refine (Q.sluicegateref05_Has.calls (a.length + 1) A c a x _ w hC hc (Q.has_f _ a x (by omega) (by omega))).mono ?_
  rintro e w' ⟨rfl, hd⟩
  exact ⟨rfl, drawn_below hd⟩
theorem rcut_calls {w : World} {v1 : Value} {a : List Int} {x : Int} (h1 : Ints a v1 w) (hl : a.length < 1099511627776) : Calls Try.prog 18 #[v1, .int .i64 x] w fun e w' => ∃ v, e = .returned v ∧ Ints (a.filter (fun y => decide (y ≠ x))) v w' ∧ (∀ k, v.ownBlock = some k → w.heap.size ≤ k) ∧ Below w.heap.size w w' := by
  obtain ⟨A, c, rfl, hc, hC⟩ := h1.out
  refine (Q.sluicegateref05_Cut.calls (a.length + 1) A c a x _ w hC hc (Q.cut_f _ a x (by omega) (by omega))).mono ?_
  rintro e w' ⟨v, rfl, hR, hb⟩
  exact ⟨v, rfl, r_ints hR, Kd.R_base hR, hb⟩
theorem rfront_calls {w : World} {v1 : Value} {a : List Int} {x : Int} (h1 : Ints a v1 w) (hl : a.length < 1099511627776) : Calls Try.prog 13 #[v1, .int .i64 x] w fun e w' => ∃ v, e = .returned v ∧ Ints (x :: a.filter (fun y => decide (y ≠ x))) v w' ∧ (∀ k, v.ownBlock = some k → w.heap.size ≤ k) ∧ Below w.heap.size w w' := by
  obtain ⟨A, c, rfl, hc, hC⟩ := h1.out
  refine (Q.sluicegateref05_Front.calls (a.length + 1) A c a x _ w hC hc (Q.front_f _ a x (by omega) (by omega))).mono ?_
  rintro e w' ⟨v, rfl, hR, hb⟩
  exact ⟨v, rfl, r_ints hR, Kd.R_base hR, hb⟩
theorem rback_calls {w : World} {v1 : Value} {a : List Int} {x : Int} (h1 : Ints a v1 w) (hl : a.length < 1099511627776) : Calls Try.prog 15 #[v1, .int .i64 x] w fun e w' => ∃ v, e = .returned v ∧ Ints (a.filter (fun y => decide (y ≠ x)) ++ [x]) v w' ∧ (∀ k, v.ownBlock = some k → w.heap.size ≤ k) ∧ Below w.heap.size w w' := by
  obtain ⟨A, c, rfl, hc, hC⟩ := h1.out
  refine (Q.sluicegateref05_Back.calls (a.length + 1) A c a x _ w hC hc (Q.back_f _ a x (by omega) (by omega))).mono ?_
  rintro e w' ⟨v, rfl, hR, hb⟩
  exact ⟨v, rfl, r_ints hR, Kd.R_base hR, hb⟩
end Go.Proofs.Ytcncninjnickoaa.Chain
