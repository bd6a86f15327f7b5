/- WireReads: what the law's call comes to. -/
import Derived.Test.YtfpdapdnmkadeaaWireORef
import Derived.Test.YtfpdapdnmkadeaaWireAwake
import Derived.Test.YtfpdapdnmkadeaaWireIs
namespace Go.Proofs.Ytfpdapdnmkadeaa.Wire
open Go.RowKit Go.Proofs.YtfpdapdnmkadeaaW.PrintWords Go.Proofs.YtfpdapdnmkadeaaW.PrintLast Go.Proofs.YtfpdapdnmkadeaaW.PrintMore
open Go.Proofs.Ytfpdapdnmkadeaa Go.Proofs.Ytfpdapdnmkadeaa.Vals Go.Proofs.Ytfpdapdnmkadeaa.Word Go.Proofs.Ytfpdapdnmkadeaa.Q
open Go.Proofs.Ytfpdapdnmkadeaa.O (S52 k52 z52 rd_T52 at_T52)
set_option linter.unusedVariables false
set_option linter.unusedSimpArgs false

set_option maxHeartbeats 8000000 in
set_option maxRecDepth 100000 in
theorem wreads_calls {w : World} (A : Option Addr) (c : Nat) {b : List Int} (h : Bys b (.slice A b.length c) w) (hby : Byte b) : Calls Try.prog 6 #[.slice A b.length c] w fun e w' => e = .returned (.bool true) ∧ Below w.heap.size w w' := by
  have HV0 := Aside0.mk h
  have HBY := Aside0.mk hby
  clear h hby
  by_cases hlen : 20000 < b.length
  · have g1 : decide ((20000 : Int) < (b.length : Int)) = true := decide_eq_true (by omega)
    have g2 : decide (20000 < b.length) = true := decide_eq_true hlen
    clear hlen
    go_enter Try.func6, Try.ntmps6
    go_wp2_with fail
    refine (awake_calls _).mono ?_
    rintro en w1 ⟨rfl, hb⟩
    have HB := Aside0.mk hb
    clear hb
    go_wp2_with fail
    go_ret
    exact ⟨by simp, HB.out⟩
  have g1 : decide ((20000 : Int) < (b.length : Int)) = false := decide_eq_false (by omega)
  have g2 : decide (20000 < b.length) = false := decide_eq_false hlen
  have HLN := Aside0.mk (show b.length ≤ 20000 by omega)
  clear hlen
  go_enter Try.func6, Try.ntmps6
  go_wp2_with fail
  clear g1 g2
  refine (ops_calls HV0.out HBY.out (by have := HLN.out; omega)).mono ?_
  rintro en w1 ⟨hyes, hnon, hb⟩
  have HV1 := Aside0.mk (HV0.out.mono hb)
  have HB1 := Aside0.mk hb
  obtain ⟨r, hic, hr1, hr2⟩ := is_calls (w := w1) HBY.out (by have := HLN.out; omega)
  by_cases hex : ∃ l, okO b l
  · obtain ⟨l, hok⟩ := hex
    obtain ⟨vl, rfl, hR⟩ := hyes l hok
    obtain ⟨A2, c2, rfl, hc2, hC2⟩ := Kd.R_reads hR
    obtain rfl : r = true := by
      cases r
      · exact absurd hok (hr2 rfl l)
      · rfl
    obtain ⟨k1, k2, k3⟩ := okO_back HBY.out hok
    have HAL := Aside0.mk k1
    have HEN := Aside0.mk k2
    have HLE := Aside0.mk k3
    have HIC := Aside0.mk hic
    have HC2 := Aside0.mk hC2
    clear hyes hnon hb hic hr1 hr2 hok hR hc2 hC2 k1 k2 k3 HV0
    have hs := run_str HV1.out
    go_wp2_with fail
    clear hs
    refine HIC.out.mono ?_
    rintro en w2 ⟨rfl, hb⟩
    have HV2 := Aside0.mk (HV1.out.mono hb)
    have HB2 := Aside0.mk (below_step HB1.out hb)
    have HL2 := Aside0.mk (Kd.C_below HC2.out hb)
    clear hb HV1 HB1 HC2 HIC
    go_wp2_with fail
    refine (script_calls A2 c2 l HLE.out _ HL2.out).mono ?_
    rintro en w3 ⟨u, z, rfl, _, hgood, hb⟩
    rw [sBad_is] at hgood
    obtain ⟨rfl, hR⟩ := hgood (by rw [decide_eq_true HAL.out]; rfl)
    rw [sB_all HAL.out, HEN.out] at hR
    have HV3 := Aside0.mk (HV2.out.mono hb)
    have HB3 := Aside0.mk (below_step HB2.out hb)
    obtain ⟨A5, c5, rfl, hc5, hC5⟩ := Kd.R_reads hR
    have HW3 := Aside0.mk (show Bys b (.slice A5 b.length c5) w3 from ⟨A5, c5, rfl, hc5, hC5⟩)
    clear hb hgood hR hc5 hC5 HV2 HB2 HL2
    have hs1 := run_str HV3.out
    have hs2 := run_str HW3.out
    go_wp2_with fail
    clear hs1 hs2
    refine (awake_calls _).mono ?_
    rintro en w4 ⟨rfl, hb⟩
    have HB4 := Aside0.mk (below_step HB3.out hb)
    clear hb
    go_wp2_with fail
    go_ret
    exact ⟨by simp, HB4.out⟩
  · have hen := hnon (fun l h => hex ⟨l, h⟩)
    subst hen
    obtain rfl : r = false := by
      cases r
      · rfl
      · exact absurd (hr1 rfl) hex
    have HIC := Aside0.mk hic
    clear hyes hnon hb hic hr1 hr2 hex HV0
    have hs := run_str HV1.out
    go_wp2_with fail
    clear hs
    refine HIC.out.mono ?_
    rintro en w2 ⟨rfl, hb⟩
    have HB2 := Aside0.mk (below_step HB1.out hb)
    clear hb HV1 HB1 HIC
    go_wp2_with fail
    refine (awake_calls _).mono ?_
    rintro en w3 ⟨rfl, hb⟩
    have HB3 := Aside0.mk (below_step HB2.out hb)
    clear hb
    go_wp2_with fail
    go_ret
    exact ⟨by simp, HB3.out⟩
end Go.Proofs.Ytfpdapdnmkadeaa.Wire
