/- The law MixMerges. -/
import Derived.Test.YtcdgenoakpmlbaaMixAwake
namespace Go.Proofs.Ytcdgenoakpmlbaa.Mix
open Go.RowKit Go.Proofs.YtcdgenoakpmlbaaW.PrintWords Go.Proofs.YtcdgenoakpmlbaaW.PrintLast Go.Proofs.YtcdgenoakpmlbaaW.PrintMore
open Go.Proofs.Ytcdgenoakpmlbaa Go.Proofs.Ytcdgenoakpmlbaa.Vals Go.Proofs.Ytcdgenoakpmlbaa.Q
set_option linter.unusedVariables false
set_option linter.unusedSimpArgs false

theorem right24_calls {w : World} {A : Option Addr} {c : Nat} {rows : List (List S32)} (h : (Kd.slice 32 k32).C w A rows.length rows) (hc : rows.length ≤ c) (hf : FewR rows) :
    ∃ b, (b = true → RowsOk rows) ∧ Calls Try.prog 6 #[.slice A rows.length c] w fun e w' => e = .returned (.bool b) ∧ Below w.heap.size w w' := by
  obtain ⟨b, hev, hb⟩ := right24_ev rows hf
  obtain ⟨k, hk⟩ := hev.rounds
  refine ⟨b, hb, (sluicegatelaw24_right.calls k A c rows b w h hc hk).mono ?_⟩
  rintro e w' ⟨rfl, hd⟩
  exact ⟨rfl, hd.below⟩
theorem ref_merge_calls {w : World} {A : Option Addr} {c : Nat} {rows : List (List S32)} (h : (Kd.slice 32 k32).C w A rows.length rows) (hc : rows.length ≤ c) (hf : FewR rows) (ho : RowsOk rows) :
    Calls Try.prog 10 #[.slice A rows.length c] w fun e w' => ∃ v : Value, e = .returned v ∧ k32.R 32 w' w.heap.size (fun _ => True) v (mergeB rows) ∧ Below w.heap.size w w' := by
  obtain ⟨k, hk⟩ := (merge_ev rows hf (by have := ho.2.2; omega)).rounds
  exact sluicegateref24_Merge.calls k A c rows _ w h hc hk
theorem right11_true {w : World} {A : Option Addr} {c : Nat} {l : List S32} (h : k32.C w A l.length l) (hc : l.length ≤ c) (hf : Few l) (hs : Sorted l) :
    Calls Try.prog 11 #[.slice A l.length c] w fun e w' => e = .returned (.bool true) ∧ Below w.heap.size w w' := by
  obtain ⟨k, hk⟩ := (right_ev l hf).rounds
  rw [(rise_sorted l).2 hs] at hk
  refine (sluicegateref11_Right.calls k A c l true w h hc hk).mono ?_
  rintro e w' ⟨rfl, hd⟩
  exact ⟨rfl, hd.below⟩
def LawPost (w : World) (e : Ending) (w' : World) : Prop := e = .returned (.bool true) ∧ Below w.heap.size w w'
set_option maxHeartbeats 4000000 in
theorem mixMerges_calls {w : World} {A : Option Addr} {c : Nat} {rows : List (List S32)} (h : (Kd.slice 32 k32).C w A rows.length rows) (hc : rows.length ≤ c) (hf : FewR rows) :
    Calls Try.prog 3 #[.slice A rows.length c] w (LawPost w) := by
  obtain ⟨b, hb, hR⟩ := right24_calls h hc hf
  have HR := Aside0.mk hR
  have HB := Aside0.mk hb
  have H := Aside0.mk (And.intro h (And.intro hc hf))
  clear h hc hf hb hR
  go_enter Try.func3, Try.ntmps3
  go_wp2_with fail
  refine HR.out.mono ?_
  rintro en w1 ⟨rfl, hb1⟩
  have HB1 := Aside0.mk hb1
  clear hb1 HR
  cases b
  · clear HB
    go_wp2_with fail
    refine (awake_calls _).mono ?_
    rintro en w2 ⟨rfl, hb2⟩
    have HB2 := Aside0.mk (below_step HB1.out hb2)
    clear hb2
    go_wp2_with fail
    go_ret
    exact ⟨rfl, HB2.out⟩
  · have HO := Aside0.mk (HB.out rfl)
    clear HB
    have HM := Aside0.mk (merge_calls A c (Kd.C_below H.out.1 HB1.out) (by have := HO.out.1; omega) (by have := HO.out.2.2; omega) (fun l hl => (HO.out.2.1 l hl).2))
    go_wp2_with fail
    refine HM.out.mono ?_
    rintro en w2 ⟨v, rfl, hr, hb2⟩
    have HB2 := Aside0.mk (below_step HB1.out hb2)
    obtain ⟨A2, c2, rfl, hc2, hC2⟩ := Kd.R_reads hr
    have HC2 := Aside0.mk hC2
    have HCC2 := Aside0.mk hc2
    clear hr hb2 hC2 hc2 HM HB1
    have HM := Aside0.mk (ref_merge_calls (Kd.C_below H.out.1 HB2.out) H.out.2.1 H.out.2.2 HO.out)
    go_wp2_with fail
    refine HM.out.mono ?_
    rintro en w3 ⟨v, rfl, hr, hb2⟩
    have HB3 := Aside0.mk (below_step HB2.out hb2)
    have HC3 := Aside0.mk (Kd.C_below HC2.out hb2)
    obtain ⟨A3, c3, rfl, hc3, hC3⟩ := Kd.R_reads hr
    have HC4 := Aside0.mk hC3
    have HCC4 := Aside0.mk hc3
    have HLM := Aside0.mk (show (mergeB rows).length ≤ 1000000 from by have := mergeB_length rows; have := HO.out.2.2; omega)
    clear hr hb2 hC3 hc3 HM HB2 HC2
    have HS := Aside0.mk (same_true HC3.out HCC2.out HC4.out HCC4.out HLM.out)
    go_wp2_with fail
    refine HS.out.mono ?_
    rintro en w4 ⟨rfl, hb4⟩
    have HB4 := Aside0.mk (below_step HB3.out hb4)
    have HR := Aside0.mk (right11_true (Kd.C_below HC3.out hb4) HCC2.out (mergeB_few rows H.out.2.2.2 (by have := HO.out.2.2; omega)) (mergeB_spec rows (fun l hl => (HO.out.2.1 l hl).2)).1)
    clear hb4 HS HB3 HC3 HC4
    go_wp2_with fail
    refine HR.out.mono ?_
    rintro en w5 ⟨rfl, hb5⟩
    have HB5 := Aside0.mk (below_step HB4.out hb5)
    clear hb5 HR HB4
    go_wp2_with fail
    refine (awake_calls _).mono ?_
    rintro en w6 ⟨rfl, hb6⟩
    have HB6 := Aside0.mk (below_step HB5.out hb6)
    clear hb6
    go_wp2_with fail
    go_ret
    exact ⟨rfl, HB6.out⟩
end Go.Proofs.Ytcdgenoakpmlbaa.Mix
