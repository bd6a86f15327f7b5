/- CheckSums: what the law's call comes to. -/
import Derived.Test.YtnoanllncohkdaaParts
import Derived.Test.YtnoanllncohkdaaFns2
namespace Go.Proofs.Ytnoanllncohkdaa.Q
open Go.RowKit Go.Proofs.YtnoanllncohkdaaW.PrintWords Go.Proofs.YtnoanllncohkdaaW.PrintLast Go.Proofs.YtnoanllncohkdaaW.PrintMore
open Go.Proofs.Ytnoanllncohkdaa.Math Go.Proofs.Ytnoanllncohkdaa.Vals Go.Proofs.Ytnoanllncohkdaa
set_option linter.unusedVariables false
set_option linter.unusedSimpArgs false

theorem right_calls (l : List Int) (x : Int) {A : Option Addr} {c : Nat} {w : World} (hC : Kd.C (Kd.int .u8) w A l.length l) (hc : l.length ≤ c) (hb : By l) (hn : l.length ≤ 140737488351232) :
    Calls Try.prog 13 #[.slice A l.length c, .int .u32 x] w fun e w' => e = .returned (.bool (M 1 l == x)) ∧ Below w.heap.size w w' :=
  check_Right.calls _ (fun _ => True) A c l x _ w (Kd.V_mk hc (Kd.F_mono (Kd.C_F (Kd.heap_int _) hC) (fun _ _ => trivial))) (right_is l x hb hn (1 + l.length + 1) (by omega))
theorem rsum_calls (l : List Int) {A : Option Addr} {c : Nat} {w : World} (hC : Kd.C (Kd.int .u8) w A l.length l) (hc : l.length ≤ c) (hb : By l) (hn : l.length ≤ 20000) :
    Calls Try.prog 10 #[.slice A l.length c] w fun e w' => e = .returned (.int .u32 (M 1 l)) ∧ Below w.heap.size w w' :=
  (sluicegateref03_Sum.calls _ A c l _ w hC hc (rsum_is l hb hn (l.length + 1) (by omega))).mono fun e w' ⟨he, hd⟩ => ⟨he, hd.below⟩
theorem rmore_calls (x : Int) (l : List Int) {A : Option Addr} {c : Nat} {w : World} (hC : Kd.C (Kd.int .u8) w A l.length l) (hc : l.length ≤ c) (hx : 0 ≤ x ∧ x < 4294967296) (hb : By l) (hn : l.length ≤ 20000) :
    Calls Try.prog 12 #[.int .u32 x, .slice A l.length c] w fun e w' => e = .returned (.int .u32 (M x l)) ∧ Below w.heap.size w w' :=
  (sluicegateref03_More.calls _ x A c l _ w hC hc (rmore_is x l hx.1 hx.2 hb hn (l.length + 1) (by omega))).mono fun e w' ⟨he, hd⟩ => ⟨he, hd.below⟩
theorem join_calls (l : List (List Int)) {A : Option Addr} {c : Nat} {w : World} (hC : Kd.C (Kd.slice 5 (Kd.int .u8)) w A l.length l) (hc : l.length ≤ c) (hn : l.length ≤ 60) (hf : l.flatten.length ≤ 20000) :
    Calls Try.prog 8 #[.slice A l.length c] w fun e w' => ∃ A' c', e = .returned (.slice A' l.flatten.length c') ∧ l.flatten.length ≤ c' ∧ Kd.C (Kd.int .u8) w' A' l.flatten.length l.flatten ∧ Below w.heap.size w w' :=
  (sluicegateref03_Join.calls _ A c l _ w hC hc (join_is l hn hf (l.length + 1) (by omega))).mono fun e w' ⟨v, he, hr, hb⟩ => by
    obtain ⟨A', c', rfl, hl, hC'⟩ := Kd.R_reads hr
    exact ⟨A', c', he, hl, hC', hb⟩

set_option maxHeartbeats 1000000 in
set_option maxRecDepth 100000 in
theorem sums_calls (A0 : Option Addr) (c0 : Nat) (l0 : List (List Int)) (a1 : Int) (A2 : Option Addr) (c2 : Nat) (l2 : List Int) (w : World) (hC0 : Kd.C (Kd.slice 5 (Kd.int .u8)) w A0 l0.length l0) (hc0 : l0.length ≤ c0) (hby : Bys l0) (hn0 : l0.length ≤ 140737488351232)
    (hC2 : Kd.C (Kd.int .u8) w A2 l2.length l2) (hc2 : l2.length ≤ c2) (hby2 : By l2) (hn2 : l2.length ≤ 140737488351232) (ha0 : 0 ≤ a1) (ha1 : a1 < 4294967296) :
    Calls Try.prog 3 #[.slice A0 l0.length c0, .int .u32 a1, .slice A2 l2.length c2] w fun e w' => e = .returned (.bool true) ∧ Below w.heap.size w w' := by
  obtain ⟨b, hg, hgf⟩ := great_is l0 hn0 (fun c hc => (hby c hc).2) (l0.length + 1) (by omega)
  have HG := Aside0.mk hg
  clear hg
  by_cases hbig : b = true ∨ 20000 < l2.length
  · have hbb : b = true ∨ b = false := by cases b <;> simp
    rcases hbb with rfl | rfl
    · go_enter Try.func3, Try.ntmps3
      go_wp2_with fail
      refine (sluicegatelaw03_great.calls _ A0 c0 l0 _ w hC0 hc0 HG.out).mono ?_
      rintro e w1 ⟨rfl, hd1⟩
      have HB1 := Aside0.mk hd1.below
      clear hd1
      go_wp2_with fail
      refine (awake_calls w1).mono ?_
      rintro e w2 ⟨rfl, hb2⟩
      have HB2 := Aside0.mk (below_step HB1.out hb2)
      go_wp2_with fail
      go_ret
      exact ⟨rfl, HB2.out⟩
    · have hlt := hbig.resolve_left (by simp)
      have hd : decide (20000 < l2.length) = true := decide_eq_true hlt
      have hdi : decide ((20000 : Int) < (l2.length : Int)) = true := decide_eq_true (by omega)
      clear hbig hgf
      go_enter Try.func3, Try.ntmps3
      go_wp2_with fail
      refine (sluicegatelaw03_great.calls _ A0 c0 l0 _ w hC0 hc0 HG.out).mono ?_
      rintro e w1 ⟨rfl, hd1⟩
      have HB1 := Aside0.mk hd1.below
      clear hd1
      go_wp2_with fail
      refine (awake_calls w1).mono ?_
      rintro e w2 ⟨rfl, hb2⟩
      have HB2 := Aside0.mk (below_step HB1.out hb2)
      go_wp2_with fail
      go_ret
      exact ⟨rfl, HB2.out⟩
  · have hbf : b = false := by cases b <;> simp_all
    subst hbf
    obtain ⟨h60, h20⟩ := hgf rfl
    have hl2 : l2.length ≤ 20000 := by omega
    have hd : decide (20000 < l2.length) = false := decide_eq_false (by omega)
    have hdi : decide ((20000 : Int) < (l2.length : Int)) = false := decide_eq_false (by omega)
    clear hbig hgf
    have hbf : By l0.flatten := fun c hc => by
      obtain ⟨x, hx, hcx⟩ := List.mem_flatten.1 hc
      exact (hby x hx).1 c hcx
    generalize hfl : l0.flatten = f at *
    have HF := Aside0.mk hfl
    clear hfl
    go_enter Try.func3, Try.ntmps3
    go_wp2_with fail
    refine (sluicegatelaw03_great.calls _ A0 c0 l0 _ w hC0 hc0 HG.out).mono ?_
    rintro e w1 ⟨rfl, hd1⟩
    have HB1 := Aside0.mk hd1.below
    clear hd1
    go_wp2_with fail
    have hj := join_calls l0 (Kd.C_below hC0 HB1.out) hc0 h60 (by rw [HF.out]; exact h20)
    rw [HF.out] at hj
    refine hj.mono ?_
    rintro e w2 ⟨A3, c3, rfl, hc3, hC3, hb2⟩
    clear hj
    have HB2 := Aside0.mk (below_step HB1.out hb2)
    clear HB1 hb2
    go_wp2_with fail
    have hs := sum_calls l0 hc0 (Kd.C_below hC0 HB2.out) hn0 hby
    rw [HF.out] at hs
    refine hs.mono ?_
    clear hs
    rintro e w3 ⟨rfl, hb3⟩
    have HB3 := Aside0.mk (below_step HB2.out hb3)
    have hC3' := Kd.C_below hC3 hb3
    clear HB2 hb3 hC3
    go_wp2_with fail
    refine (rsum_calls f hC3' hc3 hbf h20).mono ?_
    rintro e w4 ⟨rfl, hb4⟩
    have HB4 := Aside0.mk (below_step HB3.out hb4)
    have hC3 := Kd.C_below hC3' hb4
    clear HB3 hb4 hC3'
    go_wp2_with fail
    refine (more_calls a1 l2 (Kd.C_below hC2 HB4.out) hc2 ⟨ha0, ha1⟩ hby2 hn2).mono ?_
    rintro e w5 ⟨rfl, hb5⟩
    have HB5 := Aside0.mk (below_step HB4.out hb5)
    have hC3' := Kd.C_below hC3 hb5
    clear HB4 hb5 hC3
    go_wp2_with fail
    refine (rmore_calls a1 l2 (Kd.C_below hC2 HB5.out) hc2 ⟨ha0, ha1⟩ hby2 hl2).mono ?_
    rintro e w6 ⟨rfl, hb6⟩
    have HB6 := Aside0.mk (below_step HB5.out hb6)
    have hC3 := Kd.C_below hC3' hb6
    clear HB5 hb6 hC3'
    go_wp2_with fail
    refine (right_calls f a1 hC3 hc3 hbf (by omega)).mono ?_
    rintro e w7 ⟨rfl, hb7⟩
    have HB7 := Aside0.mk (below_step HB6.out hb7)
    have hC3' := Kd.C_below hC3 hb7
    clear HB6 hb7 hC3
    go_wp2_with fail
    refine (rsum_calls f hC3' hc3 hbf h20).mono ?_
    rintro e w8 ⟨rfl, hb8⟩
    have HB8 := Aside0.mk (below_step HB7.out hb8)
    have hC3 := Kd.C_below hC3' hb8
    clear HB7 hb8 hC3'
    have hcomm : (a1 == M 1 f) = (M 1 f == a1) := by rw [Bool.eq_iff_iff, beq_iff_eq, beq_iff_eq]; exact eq_comm
    go_wp2_with fail
    refine (rsum_calls f hC3 hc3 hbf h20).mono ?_
    rintro e w9 ⟨rfl, hb9⟩
    have HB9 := Aside0.mk (below_step HB8.out hb9)
    have hC3' := Kd.C_below hC3 hb9
    clear HB8 hb9 hC3
    go_wp2_with fail
    refine (right_calls f (M 1 f) hC3' hc3 hbf (by omega)).mono ?_
    rintro e w10 ⟨rfl, hb10⟩
    have HB10 := Aside0.mk (below_step HB9.out hb10)
    clear HB9 hb10 hC3'
    go_wp2_with fail
    refine (awake_calls w10).mono ?_
    rintro e w11 ⟨rfl, hb11⟩
    have HB11 := Aside0.mk (below_step HB10.out hb11)
    go_wp2_with fail
    go_ret
    exact ⟨rfl, HB11.out⟩
end Go.Proofs.Ytnoanllncohkdaa.Q
