/- ConfMoves: what the law's call comes to. -/
import Derived.Test.YtalbdmiakbbpfaaConf09
import Derived.Test.YtalbdmiakbbpfaaConfRef
namespace Go.Proofs.Ytalbdmiakbbpfaa.Q
open Go.RowKit Go.Proofs.YtalbdmiakbbpfaaW.PrintWords Go.Proofs.YtalbdmiakbbpfaaW.PrintLast Go.Proofs.YtalbdmiakbbpfaaW.PrintMore
open Go.Proofs.Ytalbdmiakbbpfaa
set_option linter.unusedVariables false
set_option linter.unusedSimpArgs false
set_option maxHeartbeats 1000000 in
set_option maxRecDepth 100000 in
theorem moves_calls (c : Cfg) (w : World) : Calls Try.prog 3 #[c.v] w fun e w' => e = .returned (.bool true) ∧ Below w.heap.size w w' := by
  have hu := Try.underlying23
  by_cases h : c.right
  · have hck := fun w => check_calls c w
    rw [if_pos h] at hck
    have hmv := fun w => move_calls c w
    rw [if_pos h.1] at hmv
    have HCK := Aside0.mk hck
    have HMV := Aside0.mk hmv
    obtain ⟨m1, m2, m3, m4, m5⟩ := move_facts c h.1
    have hs := h.1
    unfold Cfg.sized at hs
    obtain ⟨m, hm⟩ : ∃ m, c.move = m := ⟨_, rfl⟩
    rw [hm] at m1 m2 m3 m4 m5 hmv
    have HM := Aside0.mk (show ∀ w, Calls Try.prog 8 #[c.v] w fun e w' => e = .returned (.int .i64 m) ∧ Below w.heap.size w w' from fun w => hmv w)
    obtain ⟨p, hp⟩ : ∃ p, c.fan * m = p := ⟨_, rfl⟩
    have e2 : 2 * c.fan * m = 2 * p := by rw [← hp, Int.mul_assoc]
    rw [e2] at m3
    rw [hp] at m4 m5
    have hp0 : 0 ≤ p := by omega
    have d1 : decide (1 ≤ m) = true := decide_eq_true m1
    have d2 : decide (m ≤ c.buf) = true := decide_eq_true m2
    have d3 : decide (c.buf ≤ 2 * p) = true := decide_eq_true m3
    have d4 : decide (p < c.buf + c.fan) = true := decide_eq_true m4
    have s1 : 8 ≤ c.fan := hs.1
    have s2 : c.fan ≤ 64 := hs.2.1
    have s3 : c.buf ≤ 512 := hs.2.2.2.1
    have s4 : 0 ≤ c.buf := by omega
    have s5 : m ≤ 512 := by omega
    clear hck hmv HMV h hm hs m3 m4
    go_enter Try.func3, Try.ntmps3
    go_wp2_with fail
    refine (HCK.out _).mono ?_
    rintro e w1 ⟨rfl, hb1⟩
    have hbk := blk_below (blk_new w (.cells #[.int .i64 c.blocks, .int .i64 c.bytes, .int .i64 c.frames, .int .i64 c.fan, .int .i64 c.buf, .int .i64 c.leaf, .int .i64 c.key, .int .i64 c.val] 23 (0, 0))) hb1
    have HB1 := Aside0.mk (below_step (below_alloc (Below.refl _ _) _) hb1)
    clear hb1
    have hc0 := (blk_cell hbk 0).trans rfl
    have hc1 := (blk_cell hbk 1).trans rfl
    have hc2 := (blk_cell hbk 2).trans rfl
    have hc3 := (blk_cell hbk 3).trans rfl
    have hc4 := (blk_cell hbk 4).trans rfl
    have hc5 := (blk_cell hbk 5).trans rfl
    have hc6 := (blk_cell hbk 6).trans rfl
    have hc7 := (blk_cell hbk 7).trans rfl
    go_wp2_with fail
    refine (HM.out _).mono ?_
    rintro e w2 ⟨rfl, hb2⟩
    have HB2 := Aside0.mk (below_step HB1.out hb2)
    replace hbk := blk_below hbk hb2
    clear hc0 hc1 hc2 hc3 hc4 hc5 hc6 hc7 hb2 HB1
    have hc0 := (blk_cell hbk 0).trans rfl
    have hc1 := (blk_cell hbk 1).trans rfl
    have hc2 := (blk_cell hbk 2).trans rfl
    have hc3 := (blk_cell hbk 3).trans rfl
    have hc4 := (blk_cell hbk 4).trans rfl
    have hc5 := (blk_cell hbk 5).trans rfl
    have hc6 := (blk_cell hbk 6).trans rfl
    have hc7 := (blk_cell hbk 7).trans rfl
    go_wp2_with fail
    refine (awake_calls _).mono ?_
    rintro e w3 ⟨rfl, hb3⟩
    have HB3 := Aside0.mk (below_step HB2.out hb3)
    clear hb3 HB2
    go_wp2_with fail
    go_ret
    exact ⟨rfl, HB3.out⟩
  · have hck := fun w => check_calls c w
    rw [if_neg h] at hck
    have hrr := fun w => rright_calls c w
    rw [show decide c.right = false from decide_eq_false h] at hrr
    have HCK := Aside0.mk hck
    have HRR := Aside0.mk hrr
    clear hck hrr h
    go_enter Try.func3, Try.ntmps3
    go_wp2_with fail
    refine (HCK.out _).mono ?_
    rintro e w1 ⟨rfl, hb1⟩
    have hbk := blk_below (blk_new w (.cells #[.int .i64 c.blocks, .int .i64 c.bytes, .int .i64 c.frames, .int .i64 c.fan, .int .i64 c.buf, .int .i64 c.leaf, .int .i64 c.key, .int .i64 c.val] 23 (0, 0))) hb1
    have HB1 := Aside0.mk (below_step (below_alloc (Below.refl _ _) _) hb1)
    clear hb1
    have hc0 := (blk_cell hbk 0).trans rfl
    have hc1 := (blk_cell hbk 1).trans rfl
    have hc2 := (blk_cell hbk 2).trans rfl
    have hc3 := (blk_cell hbk 3).trans rfl
    have hc4 := (blk_cell hbk 4).trans rfl
    have hc5 := (blk_cell hbk 5).trans rfl
    have hc6 := (blk_cell hbk 6).trans rfl
    have hc7 := (blk_cell hbk 7).trans rfl
    go_wp2_with fail
    refine (HRR.out _).mono ?_
    rintro e w2 ⟨rfl, hb2⟩
    have HB2 := Aside0.mk (below_step HB1.out hb2)
    clear hb2 HB1
    go_wp2_with fail
    refine (awake_calls _).mono ?_
    rintro e w3 ⟨rfl, hb3⟩
    have HB3 := Aside0.mk (below_step HB2.out hb3)
    clear hb3 HB2
    go_wp2_with fail
    go_ret
    exact ⟨rfl, HB3.out⟩
end Go.Proofs.Ytalbdmiakbbpfaa.Q
