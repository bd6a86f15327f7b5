/- The page's example of a chain. -/
import Derived.Test.YtcncninjnickoaaChain5
import Derived.Test.YtcncninjnickoaaRef05Calls
namespace Go.Proofs.Ytcncninjnickoaa.Chain
open Go.RowKit Go.Proofs.YtcncninjnickoaaW.PrintWords Go.Proofs.YtcncninjnickoaaW.PrintLast Go.Proofs.YtcncninjnickoaaW.PrintMore
open Go.Proofs.Ytcncninjnickoaa Go.Proofs.Ytcncninjnickoaa.Ring Go.Proofs.Ytcncninjnickoaa.Vals
set_option linter.unusedVariables false
set_option linter.unusedSimpArgs false

/-- What a chain's call leaves: a later world, all that was there at first as it was. -/
theorem later {w0 w w' : World} {g h : Nat} (hb : Below w0.heap.size w0 w) (hk : Keeps (SetOf g h) w w') (hg : w0.heap.size ≤ g) (hh : w0.heap.size ≤ h) : Below w0.heap.size w0 w' :=
  Keeps.below_then hb (Nat.le_refl _) hk (fun i hi => by rcases hi with rfl | rfl <;> assumption)

set_option maxHeartbeats 2000000 in
theorem awake_calls (w : World) : Calls Try.prog 11 #[] w fun e w' => e = .returned (.bool true) ∧ Below w.heap.size w w' := by
  go_enter Try.func11, Try.ntmps11
  go_wp2_with fail
  refine (new_in (N := 4) (by omega) (by omega)).mono ?_
  rintro e w1 ⟨g, h, f, rfl, hc, hr, hB, hg, hh⟩
  have HC := Aside0.mk (show On w1 g h 4 [] from ⟨f, hc, hr⟩)
  have HB := Aside0.mk hB
  clear hc hr hB
  go_wp2_with fail
  refine (front_in HC.out (i := 1) (by omega)).mono ?_
  rintro e w2 ⟨rfl, hc, hk⟩
  have HC2 := Aside0.mk hc
  have HB2 := Aside0.mk (later HB.out hk hg hh)
  clear hc hk HC HB
  go_wp2_with fail
  refine (front_in HC2.out (i := 2) (by omega)).mono ?_
  rintro e w3 ⟨rfl, hc, hk⟩
  have HC3 := Aside0.mk hc
  have HB3 := Aside0.mk (later HB2.out hk hg hh)
  clear hc hk HC2 HB2
  go_wp2_with fail
  refine (front_in HC3.out (i := 1) (by omega)).mono ?_
  rintro e w4 ⟨rfl, hc, hk⟩
  have HC4 := Aside0.mk (show On w4 g h 4 ([1] ++ [2]) from hc)
  have HB4 := Aside0.mk (later HB3.out hk hg hh)
  clear hc hk HC3 HB3
  go_wp2_with fail
  refine (last_on HC4.out).mono ?_
  rintro e w5 ⟨rfl, hb⟩
  have HC5 := Aside0.mk (HC4.out.below hb)
  have HB5 := Aside0.mk (below_step HB4.out hb)
  clear hb HC4 HB4
  go_wp2_with fail
  refine (row_on HC5.out (by simp)).mono ?_
  rintro e w6 ⟨v, rfl, hR, hb⟩
  have HC6 := Aside0.mk (HC5.out.below hb)
  have HB6 := Aside0.mk (below_step HB5.out hb)
  clear hb HC5 HB5
  have HI := Aside0.mk (r_ints hR)
  clear hR
  go_wp2_with fail
  refine (same_calls (a := [1, 2]) (b := [1, 2]) (HI.out.mono (below_alloc (Below.refl _ _) _)) (lit2 (w := w6) rfl rfl rfl) (by simp)).mono ?_
  rintro e w7 ⟨rfl, hb⟩
  have hb := below_step (below_alloc (Below.refl _ _) _) hb
  have HC7 := Aside0.mk (HC6.out.below hb)
  have HB7 := Aside0.mk (below_step HB6.out hb)
  clear hb HC6 HB6 HI
  go_wp2_with fail
  refine (cut_in HC7.out (i := 3) (by omega)).mono ?_
  rintro e w8 ⟨rfl, hc, hk⟩
  have HB8 := Aside0.mk (later HB7.out hk hg hh)
  clear hc hk HC7 HB7
  go_wp2_with fail
  go_ret
  exact ⟨by simp, HB8.out⟩
end Go.Proofs.Ytcncninjnickoaa.Chain
