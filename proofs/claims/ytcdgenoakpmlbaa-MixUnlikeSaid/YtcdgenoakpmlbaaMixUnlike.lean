/- The law MixUnlike. -/
import Derived.Test.YtcdgenoakpmlbaaMixUn
namespace Go.Proofs.Ytcdgenoakpmlbaa.Mix
open Go.RowKit Go.Proofs.YtcdgenoakpmlbaaW.PrintWords Go.Proofs.YtcdgenoakpmlbaaW.PrintLast Go.Proofs.YtcdgenoakpmlbaaW.PrintMore
open Go.Proofs.Ytcdgenoakpmlbaa Go.Proofs.Ytcdgenoakpmlbaa.Vals Go.Proofs.Ytcdgenoakpmlbaa.Q Go.Proofs.Ytcdgenoakpmlbaa.U
set_option linter.unusedVariables false
set_option linter.unusedSimpArgs false

theorem two_rows {w : World} {A B : Option Addr} {c d : Nat} {a b : List S32} (ha : k32.C w A a.length a) (hc : a.length ≤ c) (hb : k32.C w B b.length b) (hd : b.length ≤ d) :
    (Kd.slice 32 k32).C (w.alloc (.cells #[.slice A a.length c, .slice B b.length d] 25)) (some ⟨w.heap.size, 0, none⟩) 2 [a, b] := by
  have hl := lit2 (d := Kd.slice 32 k32) (w := w) (x := a) (y := b) (t := 25) rfl ((IsL.slice_ _).2 ⟨A, c, rfl, hc, ha⟩) ((IsL.slice_ _).2 ⟨B, d, rfl, hd, hb⟩)
  obtain ⟨A', c', e, _, hC⟩ := hl.out
  injection e with e1 e2 e3
  rw [e1]
  exact hC
theorem ref_un_calls {w : World} {A B : Option Addr} {c d : Nat} {a b : List S32} (ha : k32.C w A a.length a) (hc : a.length ≤ c) (hb : k32.C w B b.length b) (hd : b.length ≤ d) (hl : a.length ≤ 1000000) (hl2 : b.length ≤ 1000000) :
    Calls Try.prog 16 #[.slice A a.length c, .slice B b.length d] w (UnPost w (unlikeB a b)) := by
  obtain ⟨k, hk⟩ := (unlike_ev a b hl hl2).rounds
  exact sluicegateref24_Unlike.calls k A c a B d b _ w ha hc hb hd hk
set_option maxHeartbeats 4000000 in
theorem mixUnlike_calls {w : World} {A B : Option Addr} {c d : Nat} {a b : List S32} (ha : k32.C w A a.length a) (hc : a.length ≤ c) (hb : k32.C w B b.length b) (hd : b.length ≤ d) (hfa : Few a) (hfb : Few b) :
    Calls Try.prog 5 #[.slice A a.length c, .slice B b.length d] w (LawPost w) := by
  have HC := Aside0.mk (And.intro ha (And.intro hc (And.intro hb hd)))
  have HF := Aside0.mk (And.intro hfa hfb)
  obtain ⟨bb, hbb, hR⟩ := right24_calls (two_rows ha hc hb hd) (c := 2) (by simp) ⟨by simp, by simp [hfa, hfb]⟩
  have HR := Aside0.mk (show Calls Try.prog 6 #[.slice (some ⟨w.heap.size, 0, none⟩) 2 2] _ _ from hR)
  have HBB := Aside0.mk hbb
  have HB0 := Aside0.mk (below_alloc (Below.refl w.heap.size w) (.cells #[.slice A a.length c, .slice B b.length d] 25))
  clear ha hc hb hd hfa hfb hbb hR
  go_enter Try.func5, Try.ntmps5
  go_wp2_with fail
  refine HR.out.mono ?_
  rintro en w1 ⟨rfl, hb1⟩
  have HB1 := Aside0.mk (below_step HB0.out hb1)
  clear hb1 HR HB0
  cases bb
  · clear HBB
    go_wp2_with fail
    refine (awake_calls _).mono ?_
    rintro en w2 ⟨rfl, hb2⟩
    have HB2 := Aside0.mk (below_step HB1.out hb2)
    clear hb2
    go_wp2_with fail
    go_ret
    exact ⟨rfl, HB2.out⟩
  · have hok := HBB.out rfl
    have HA := Aside0.mk (show a.length ≤ 100 ∧ Sorted a from hok.2.1 a (by simp))
    have HB := Aside0.mk (show b.length ≤ 100 ∧ Sorted b from hok.2.1 b (by simp))
    clear hok HBB
    have HU := Aside0.mk (un_calls (Kd.C_below HC.out.1 HB1.out) HC.out.2.1 (Kd.C_below HC.out.2.2.1 HB1.out) HC.out.2.2.2 (by have := HA.out.1; omega) (by have := HB.out.1; omega))
    go_wp2_with fail
    refine HU.out.mono ?_
    rintro en w2 ⟨v, rfl, hr, hb2⟩
    rw [unlikeL_is a b HA.out.2 HB.out.2] at hr
    have HB2 := Aside0.mk (below_step HB1.out hb2)
    obtain ⟨A2, c2, rfl, hc2, hC2⟩ := Kd.R_reads hr
    have HC2 := Aside0.mk hC2
    have HCC2 := Aside0.mk hc2
    have HLU := Aside0.mk (show (unlikeB a b).length ≤ 100 from Nat.le_trans (List.length_filter_le _ _) HA.out.1)
    clear hr hb2 hC2 hc2 HU HB1
    have HM := Aside0.mk (ref_un_calls (Kd.C_below HC.out.1 HB2.out) HC.out.2.1 (Kd.C_below HC.out.2.2.1 HB2.out) HC.out.2.2.2 (by have := HA.out.1; omega) (by have := HB.out.1; omega))
    go_wp2_with fail
    refine HM.out.mono ?_
    rintro en w3 ⟨v, rfl, hr, hb2⟩
    have HB3 := Aside0.mk (below_step HB2.out hb2)
    have HC3 := Aside0.mk (Kd.C_below HC2.out hb2)
    obtain ⟨A3, c3, rfl, hc3, hC3⟩ := Kd.R_reads hr
    have HC4 := Aside0.mk hC3
    have HCC4 := Aside0.mk hc3
    clear hr hb2 hC3 hc3 HM HB2 HC2
    have HS := Aside0.mk (same_true HC3.out HCC2.out HC4.out HCC4.out (by have := HLU.out; omega))
    go_wp2_with fail
    refine HS.out.mono ?_
    rintro en w4 ⟨rfl, hb4⟩
    have HB4 := Aside0.mk (below_step HB3.out hb4)
    have HC5 := Aside0.mk (Kd.C_below HC3.out hb4)
    clear hb4 HS HB3 HC3 HC4
    have HM := Aside0.mk (merge_calls _ 2 (rows := [unlikeB a b, b]) (two_rows HC5.out HCC2.out (Kd.C_below HC.out.2.2.1 HB4.out) HC.out.2.2.2) (by simp) (by simp; have := HLU.out; have := HB.out.1; omega) (by
      intro l hl
      rcases List.mem_cons.1 hl with rfl | hl
      · exact List.Pairwise.filter _ HA.out.2
      · rw [List.mem_singleton.1 hl]; exact HB.out.2))
    have HM2 := Aside0.mk (show Calls Try.prog 8 #[.slice (some ⟨w4.heap.size, 0, none⟩) 2 2] _ _ from HM.out)
    have HB5 := Aside0.mk (below_step HB4.out (below_alloc (Below.refl w4.heap.size w4) (.cells #[.slice A2 (unlikeB a b).length c2, .slice B b.length d] 25)))
    clear HM HB4 HC5
    go_wp2_with fail
    refine HM2.out.mono ?_
    rintro en w5 ⟨v, rfl, hr, hb5⟩
    have HB6 := Aside0.mk (below_step HB5.out hb5)
    rw [unlike_merge HA.out.2 HB.out.2] at hr
    obtain ⟨A5, c5, rfl, hc5, hC5⟩ := Kd.R_reads hr
    have HC6 := Aside0.mk hC5
    have HCC6 := Aside0.mk hc5
    clear hr hb5 hC5 hc5 HM2 HB5
    have HM := Aside0.mk (merge_calls _ 2 (rows := [a, b]) (two_rows (Kd.C_below HC.out.1 HB6.out) HC.out.2.1 (Kd.C_below HC.out.2.2.1 HB6.out) HC.out.2.2.2) (by simp) (by simp; have := HA.out.1; have := HB.out.1; omega) (by
      intro l hl
      rcases List.mem_cons.1 hl with rfl | hl
      · exact HA.out.2
      · rw [List.mem_singleton.1 hl]; exact HB.out.2))
    have HM2 := Aside0.mk (show Calls Try.prog 8 #[.slice (some ⟨w5.heap.size, 0, none⟩) 2 2] _ _ from HM.out)
    have hal := below_alloc (Below.refl w5.heap.size w5) (.cells #[.slice A a.length c, .slice B b.length d] 25)
    have HB7 := Aside0.mk (below_step HB6.out hal)
    have HC7 := Aside0.mk (Kd.C_below HC6.out hal)
    clear HM HB6 HC6 hal
    go_wp2_with fail
    refine HM2.out.mono ?_
    rintro en w6 ⟨v, rfl, hr, hb6⟩
    have HB8 := Aside0.mk (below_step HB7.out hb6)
    have HC8 := Aside0.mk (Kd.C_below HC7.out hb6)
    obtain ⟨A6, c6, rfl, hc6, hC6⟩ := Kd.R_reads hr
    have HC9 := Aside0.mk hC6
    have HCC9 := Aside0.mk hc6
    have HLM := Aside0.mk (show (mergeB [a, b]).length ≤ 1000000 from by have := mergeB_length [a, b]; have := HA.out.1; have := HB.out.1; simp at *; omega)
    clear hr hb6 hC6 hc6 HM2 HB7 HC7
    have HS := Aside0.mk (same_true HC8.out HCC6.out HC9.out HCC9.out HLM.out)
    go_wp2_with fail
    refine HS.out.mono ?_
    rintro en w7 ⟨rfl, hb7⟩
    have HB9 := Aside0.mk (below_step HB8.out hb7)
    clear hb7 HS HB8 HC8 HC9
    have HU := Aside0.mk (un_calls (Kd.C_below HC.out.1 HB9.out) HC.out.2.1 (Kd.C_below HC.out.1 HB9.out) HC.out.2.1 (by have := HA.out.1; omega) (by have := HA.out.1; omega))
    go_wp2_with fail
    refine HU.out.mono ?_
    rintro en w8 ⟨v, rfl, hr, hb8⟩
    rw [unlikeL_is a a HA.out.2 HA.out.2, unlike_self HA.out.2] at hr
    have HB10 := Aside0.mk (below_step HB9.out hb8)
    obtain ⟨A8, c8, rfl, hc8, hC8⟩ := Kd.R_reads hr
    clear hr hb8 hC8 hc8 HU HB9
    go_wp2_with fail
    refine (awake_calls _).mono ?_
    rintro en w9 ⟨rfl, hb9⟩
    have HB11 := Aside0.mk (below_step HB10.out hb9)
    clear hb9
    go_wp2_with fail
    go_ret
    exact ⟨rfl, HB11.out⟩
end Go.Proofs.Ytcdgenoakpmlbaa.Mix
