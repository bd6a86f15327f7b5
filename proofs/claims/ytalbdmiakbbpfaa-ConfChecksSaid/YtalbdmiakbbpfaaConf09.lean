/- The page's example holds; what the laws' calls come to. -/
import Derived.Test.YtalbdmiakbbpfaaHCheck
import Derived.Test.YtalbdmiakbbpfaaQ3
namespace Go.Proofs.Ytalbdmiakbbpfaa.Q
open Go.RowKit Go.Proofs.YtalbdmiakbbpfaaW.PrintWords Go.Proofs.YtalbdmiakbbpfaaW.PrintLast Go.Proofs.YtalbdmiakbbpfaaW.PrintMore
open Go.Proofs.Ytalbdmiakbbpfaa
set_option linter.unusedVariables false
set_option linter.unusedSimpArgs false

theorem move_is (c : Cfg) (k : Nat) (hk : 5 ≤ k) : conf_Move.f k c.blocks c.bytes c.frames c.fan c.buf c.leaf c.key c.val = some (if c.sized then c.move else 0) := by
  unfold conf_Move.f
  rw [sized_is c k hk]
  simp only [Option.bind_some]
  by_cases h : c.sized
  · rw [if_pos (by simpa using h), if_pos h]
    have h' := h
    unfold Cfg.sized at h'
    rw [w64 (x := 2 * c.fan) (by omega) (by omega), if_neg (by omega), w64 (x := c.buf + 2 * c.fan) (by omega) (by omega), w64 (x := c.buf + 2 * c.fan - 1) (by omega) (by omega), Int.tdiv_eq_ediv_of_nonneg (by omega)]
    have h1 : 0 ≤ (c.buf + 2 * c.fan - 1) / (2 * c.fan) := Int.ediv_nonneg (by omega) (by omega)
    have h2 : (c.buf + 2 * c.fan - 1) / (2 * c.fan) ≤ c.buf + 2 * c.fan - 1 := Int.ediv_le_self _ (by omega)
    rw [w64 (by omega) (by omega)]
    rfl
  · rw [if_neg (by simpa using h), if_neg h]
theorem move_calls (c : Cfg) (w : World) : Calls Try.prog 8 #[c.v] w fun e w' => e = .returned (.int .i64 (if c.sized then c.move else 0)) ∧ Below w.heap.size w w' :=
  conf_Move.calls 5 _ _ _ _ _ _ _ _ _ w (move_is c 5 (by omega))
def ex0 : Cfg := ⟨9, 0, 8, 8, 16, 16, 2, 1⟩
theorem ex0_sized : ex0.sized := by decide
theorem i0 (w : World) : Calls Try.prog 16 #[ex0.v] w fun e w' => e = .returned (.int .i64 173) ∧ Below w.heap.size w w' := inner_calls ex0 w
theorem o0 (w : World) : Calls Try.prog 17 #[ex0.v] w fun e w' => e = .returned (.int .i64 104) ∧ Below w.heap.size w w' := outer_calls ex0 w
theorem m0 (w : World) : Calls Try.prog 8 #[ex0.v] w fun e w' => e = .returned (.int .i64 1) ∧ Below w.heap.size w w' := move_calls ex0 w
theorem c0 (w : World) : Calls Try.prog 5 #[ex0.v] w fun e w' => e = .returned (.int .i64 2) ∧ Below w.heap.size w w' := check_calls ex0 w
def ex1 : Cfg := ⟨9, 173, 8, 8, 16, 16, 2, 1⟩
theorem l0 (w : World) : Calls Try.prog 11 #[ex0.v] w fun e w' => e = .returned (.agg #[.int .i64 9, .int .i64 173, .int .i64 8, .int .i64 8, .int .i64 16, .int .i64 16, .int .i64 2, .int .i64 1]) ∧ Below w.heap.size w w' := by
  have h := least_calls ex0 w
  rw [show ex0.least = ex1 by rfl] at h
  exact h
theorem c1 (w : World) : Calls Try.prog 5 #[ex1.v] w fun e w' => e = .returned (.int .i64 0) ∧ Below w.heap.size w w' := check_calls ex1 w

set_option maxHeartbeats 1000000 in
set_option maxRecDepth 100000 in
theorem awake_calls (w : World) : Calls Try.prog 7 #[] w fun e w' => e = .returned (.bool true) ∧ Below w.heap.size w w' := by
  have hu := Try.underlying23
  have HI := Aside0.mk i0
  have hf := field1 9 173 8 8 16 16 2 1
  go_enter Try.func7, Try.ntmps7
  go_wp2_with fail
  refine (i0 _).mono ?_
  rintro e w1 ⟨rfl, hb1⟩
  have hbk := blk_below (blk_new w (.cells #[.int .i64 9, .int .i64 0, .int .i64 8, .int .i64 8, .int .i64 16, .int .i64 16, .int .i64 2, .int .i64 1] 23 (0, 0))) hb1
  have HB1 := Aside0.mk (below_step (below_alloc (Below.refl _ _) _) hb1)
  clear hb1
  have hc0 := (blk_cell hbk 0).trans rfl
  have hc1 := (blk_cell hbk 1).trans rfl
  have hc2 := (blk_cell hbk 2).trans rfl
  have hc3 := (blk_cell hbk 3).trans rfl
  have hc4 := (blk_cell hbk 4).trans rfl
  have hc5 := (blk_cell hbk 5).trans rfl
  have hc6 := (blk_cell hbk 6).trans rfl
  have hc7 := (blk_cell hbk 7).trans rfl
  go_wp2_with fail
  refine (o0 _).mono ?_
  rintro e w2 ⟨rfl, hb2⟩
  have HB2 := Aside0.mk (below_step HB1.out hb2)
  replace hbk := blk_below hbk hb2
  clear hc0 hc1 hc2 hc3 hc4 hc5 hc6 hc7
  have hc0 := (blk_cell hbk 0).trans rfl
  have hc1 := (blk_cell hbk 1).trans rfl
  have hc2 := (blk_cell hbk 2).trans rfl
  have hc3 := (blk_cell hbk 3).trans rfl
  have hc4 := (blk_cell hbk 4).trans rfl
  have hc5 := (blk_cell hbk 5).trans rfl
  have hc6 := (blk_cell hbk 6).trans rfl
  have hc7 := (blk_cell hbk 7).trans rfl
  clear hb2 HB1
  go_wp2_with fail
  refine (m0 _).mono ?_
  rintro e w3 ⟨rfl, hb3⟩
  have HB3 := Aside0.mk (below_step HB2.out hb3)
  replace hbk := blk_below hbk hb3
  clear hc0 hc1 hc2 hc3 hc4 hc5 hc6 hc7
  have hc0 := (blk_cell hbk 0).trans rfl
  have hc1 := (blk_cell hbk 1).trans rfl
  have hc2 := (blk_cell hbk 2).trans rfl
  have hc3 := (blk_cell hbk 3).trans rfl
  have hc4 := (blk_cell hbk 4).trans rfl
  have hc5 := (blk_cell hbk 5).trans rfl
  have hc6 := (blk_cell hbk 6).trans rfl
  have hc7 := (blk_cell hbk 7).trans rfl
  clear hb3 HB2
  go_wp2_with fail
  refine (c0 _).mono ?_
  rintro e w4 ⟨rfl, hb4⟩
  have HB4 := Aside0.mk (below_step HB3.out hb4)
  replace hbk := blk_below hbk hb4
  clear hc0 hc1 hc2 hc3 hc4 hc5 hc6 hc7
  have hc0 := (blk_cell hbk 0).trans rfl
  have hc1 := (blk_cell hbk 1).trans rfl
  have hc2 := (blk_cell hbk 2).trans rfl
  have hc3 := (blk_cell hbk 3).trans rfl
  have hc4 := (blk_cell hbk 4).trans rfl
  have hc5 := (blk_cell hbk 5).trans rfl
  have hc6 := (blk_cell hbk 6).trans rfl
  have hc7 := (blk_cell hbk 7).trans rfl
  clear hb4 HB3
  go_wp2_with fail
  refine (l0 _).mono ?_
  rintro e w5 ⟨rfl, hb5⟩
  have HB5 := Aside0.mk (below_step HB4.out hb5)
  replace hbk := blk_below hbk hb5
  clear hc0 hc1 hc2 hc3 hc4 hc5 hc6 hc7
  have hc0 := (blk_cell hbk 0).trans rfl
  have hc1 := (blk_cell hbk 1).trans rfl
  have hc2 := (blk_cell hbk 2).trans rfl
  have hc3 := (blk_cell hbk 3).trans rfl
  have hc4 := (blk_cell hbk 4).trans rfl
  have hc5 := (blk_cell hbk 5).trans rfl
  have hc6 := (blk_cell hbk 6).trans rfl
  have hc7 := (blk_cell hbk 7).trans rfl
  clear hb5 HB4
  go_wp2_with fail
  refine (c1 _).mono ?_
  rintro e w6 ⟨rfl, hb6⟩
  have HB6 := Aside0.mk (below_step HB5.out hb6)
  replace hbk := blk_below hbk hb6
  clear hc0 hc1 hc2 hc3 hc4 hc5 hc6 hc7
  have hc0 := (blk_cell hbk 0).trans rfl
  have hc1 := (blk_cell hbk 1).trans rfl
  have hc2 := (blk_cell hbk 2).trans rfl
  have hc3 := (blk_cell hbk 3).trans rfl
  have hc4 := (blk_cell hbk 4).trans rfl
  have hc5 := (blk_cell hbk 5).trans rfl
  have hc6 := (blk_cell hbk 6).trans rfl
  have hc7 := (blk_cell hbk 7).trans rfl
  clear hb6 HB5
  go_wp2_with fail
  refine (l0 _).mono ?_
  rintro e w7 ⟨rfl, hb7⟩
  have HB7 := Aside0.mk (below_step HB6.out hb7)
  replace hbk := blk_below hbk hb7
  clear hc0 hc1 hc2 hc3 hc4 hc5 hc6 hc7
  have hc0 := (blk_cell hbk 0).trans rfl
  have hc1 := (blk_cell hbk 1).trans rfl
  have hc2 := (blk_cell hbk 2).trans rfl
  have hc3 := (blk_cell hbk 3).trans rfl
  have hc4 := (blk_cell hbk 4).trans rfl
  have hc5 := (blk_cell hbk 5).trans rfl
  have hc6 := (blk_cell hbk 6).trans rfl
  have hc7 := (blk_cell hbk 7).trans rfl
  clear hb7 HB6
  go_wp2_with fail
  go_ret
  exact ⟨rfl, HB7.out⟩

/-- Of right settings. -/
theorem move_facts (c : Cfg) (h : c.sized) : 1 ≤ c.move ∧ c.move ≤ c.buf ∧ c.buf ≤ 2 * c.fan * c.move ∧ c.fan * c.move < c.buf + c.fan ∧ c.fan * c.move ≤ 64 * 512 := by
  unfold Cfg.sized at h
  have e : 2 * c.fan * c.move ≤ c.buf + 2 * c.fan - 1 ∧ c.buf + 2 * c.fan - 1 < 2 * c.fan * c.move + 2 * c.fan := by
    unfold Cfg.move
    have h1 := Int.mul_ediv_add_emod (c.buf + 2 * c.fan - 1) (2 * c.fan)
    have h2 := Int.emod_nonneg (c.buf + 2 * c.fan - 1) (b := 2 * c.fan) (by omega)
    have h3 := Int.emod_lt_of_pos (c.buf + 2 * c.fan - 1) (b := 2 * c.fan) (by omega)
    omega
  have a1 : 2 * c.fan * c.move = 2 * (c.fan * c.move) := by rw [Int.mul_assoc]
  have hm1 : 1 ≤ c.move := by
    unfold Cfg.move
    rw [Int.le_ediv_iff_mul_le (by omega)]
    omega
  have hm2 : c.move ≤ c.buf := by
    unfold Cfg.move
    have := Int.ediv_le_ediv (a := c.buf + 2 * c.fan - 1) (b := 2 * c.buf) (c := 2) (by omega) (by omega)
    have h4 : (c.buf + 2 * c.fan - 1) / (2 * c.fan) ≤ (c.buf + 2 * c.fan - 1) / 2 := by
      apply Int.le_of_lt_add_one
      rw [Int.ediv_lt_iff_lt_mul (by omega)]
      have h5 := Int.emod_lt_of_pos (c.buf + 2 * c.fan - 1) (b := 2) (by decide)
      have h6 := Int.mul_ediv_add_emod (c.buf + 2 * c.fan - 1) 2
      have h7 : 0 ≤ (c.buf + 2 * c.fan - 1) / 2 := Int.ediv_nonneg (by omega) (by decide)
      have h8 : ((c.buf + 2 * c.fan - 1) / 2 + 1) * 2 ≤ ((c.buf + 2 * c.fan - 1) / 2 + 1) * (2 * c.fan) := Int.mul_le_mul_of_nonneg_left (by omega) (by omega)
      omega
    have h9 : (2 * c.buf) / 2 = c.buf := by omega
    omega
  refine ⟨hm1, hm2, by omega, by omega, by omega⟩
end Go.Proofs.Ytalbdmiakbbpfaa.Q
