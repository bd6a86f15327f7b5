/- ConfChecks: what the law's call comes to. -/
import Derived.Test.YtalbdmiakbbpfaaConf09
import Derived.Test.YtalbdmiakbbpfaaConfRef
import Derived.Test.YtalbdmiakbbpfaaPConfChecksx1
namespace Go.Proofs.Ytalbdmiakbbpfaa.Q
open Go.RowKit Go.Proofs.YtalbdmiakbbpfaaW.PrintWords Go.Proofs.YtalbdmiakbbpfaaW.PrintLast Go.Proofs.YtalbdmiakbbpfaaW.PrintMore
open Go.Proofs.Ytalbdmiakbbpfaa
set_option linter.unusedVariables false
set_option linter.unusedSimpArgs false

def eqC (c d : Cfg) : Bool := c.blocks == d.blocks && (c.bytes == d.bytes && (c.frames == d.frames && (c.fan == d.fan && (c.buf == d.buf && (c.leaf == d.leaf && (c.key == d.key && (c.val == d.val)))))))
theorem eqC_self (c : Cfg) : eqC c c = true := by simp [eqC]
theorem eql_cfg (c d : Cfg) (w : World) : (binOp .eql 23 (.agg #[.int .i64 c.blocks, .int .i64 c.bytes, .int .i64 c.frames, .int .i64 c.fan, .int .i64 c.buf, .int .i64 c.leaf, .int .i64 c.key, .int .i64 c.val]) (.agg #[.int .i64 d.blocks, .int .i64 d.bytes, .int .i64 d.frames, .int .i64 d.fan, .int .i64 d.buf, .int .i64 d.leaf, .int .i64 d.key, .int .i64 d.val])).run Try.prog w = .ok (.bool (eqC c d)) w := by
  have h := PConfChecks.eqA23 9998 w c.blocks d.blocks c.bytes d.bytes c.frames d.frames c.fan d.fan c.buf d.buf c.leaf d.leaf c.key d.key c.val d.val
  simp only [binOp]
  simp [Op.equal, Op.maxDepth, h, eqC]
theorem guard_cfg (x y : Operand) (a b : Array Value) (w : World) : (eqGuard .eql 23 x y (.agg a) (.agg b)).run Try.prog w = .ok () w :=
  run_eqGuard_agg w .eql 23 x y a b (by kernel_rfl)
set_option maxHeartbeats 1000000 in
theorem same_calls (c d : Cfg) (w : World) : Calls Try.prog 9 #[c.v, d.v] w fun e w' => e = .returned (.bool (eqC c d)) ∧ Below w.heap.size w w' := by
  have he := fun w => eql_cfg c d w
  go_enter Try.func9, Try.ntmps9
  go_wp2
  go_ret
  exact ⟨rfl, by repeat (first | exact Below.refl _ _ | apply below_alloc | apply below_drew1)⟩

set_option maxHeartbeats 2000000 in
set_option maxRecDepth 100000 in
theorem checks_calls (c d : Cfg) (w0 : World) : Calls Try.prog 4 #[c.v, d.v] w0 fun e w' => e = .returned (.bool true) ∧ Below w0.heap.size w0 w' := by
  have hu := Try.underlying23
  by_cases h : c.right
  · have hck := fun w => check_calls c w
    rw [if_pos h] at hck
    have hrr := fun w => rright_calls c w
    rw [show decide c.right = true from decide_eq_true h] at hrr
    have HCK := Aside0.mk hck
    have HRR := Aside0.mk hrr
    clear hck hrr h
    go_enter Try.func4, Try.ntmps4
    go_wp2_with fail
    refine (HCK.out _).mono ?_
    rintro e w1 ⟨rfl, hb1⟩
    have hbc : w1.heap[w0.heap.size]? = some (.cells #[.int .i64 c.blocks, .int .i64 c.bytes, .int .i64 c.frames, .int .i64 c.fan, .int .i64 c.buf, .int .i64 c.leaf, .int .i64 c.key, .int .i64 c.val] 23 (0, 0)) := blk_below (blk_alloc (blk_new w0 _) _) hb1
    have hbd : w1.heap[w0.heap.size + 1]? = some (.cells #[.int .i64 d.blocks, .int .i64 d.bytes, .int .i64 d.frames, .int .i64 d.fan, .int .i64 d.buf, .int .i64 d.leaf, .int .i64 d.key, .int .i64 d.val] 23 (0, 0)) := blk_below (by
      have := blk_new (w0.alloc (.cells #[.int .i64 c.blocks, .int .i64 c.bytes, .int .i64 c.frames, .int .i64 c.fan, .int .i64 c.buf, .int .i64 c.leaf, .int .i64 c.key, .int .i64 c.val] 23 (0, 0))) (.cells #[.int .i64 d.blocks, .int .i64 d.bytes, .int .i64 d.frames, .int .i64 d.fan, .int .i64 d.buf, .int .i64 d.leaf, .int .i64 d.key, .int .i64 d.val] 23 (0, 0))
      simpa using this) hb1
    have HB := Aside0.mk (below_step (below_alloc (below_alloc (Below.refl _ _) _) _) hb1)
    have HBC := Aside0.mk hbc
    have HBD := Aside0.mk hbd
    clear hb1 hbc hbd
    go_wp2_with fail
    refine Reg.region_list [Reg.Is (.int .i64 0), Reg.Is (.bool true), Reg.Is (.agg #[.int .i64 c.blocks, .int .i64 c.bytes, .int .i64 c.frames, .int .i64 c.fan, .int .i64 c.buf, .int .i64 c.leaf, .int .i64 c.key, .int .i64 c.val]), Reg.Is (.bool true), Reg.Is (.bool true), Reg.Is (.bool true), Reg.Is (.int .i64 0), Reg.Is (.bool true), Reg.Is (.bool true), Reg.Any, Reg.Any, Reg.Is (.bool true), Reg.Is (.bool true), Reg.Is (.bool true), Reg.Is (.agg #[.int .i64 c.blocks, .int .i64 c.bytes, .int .i64 c.frames, .int .i64 c.fan, .int .i64 c.buf, .int .i64 c.leaf, .int .i64 c.key, .int .i64 c.val]), Reg.Is (.agg #[.int .i64 d.blocks, .int .i64 d.bytes, .int .i64 d.frames, .int .i64 d.fan, .int .i64 d.buf, .int .i64 d.leaf, .int .i64 d.key, .int .i64 d.val]), Reg.Is (.bool (eqC c d)), Reg.Is (.agg #[.int .i64 c.blocks, .int .i64 c.bytes, .int .i64 c.frames, .int .i64 c.fan, .int .i64 c.buf, .int .i64 c.leaf, .int .i64 c.key, .int .i64 c.val]), Reg.Is (.agg #[.int .i64 d.blocks, .int .i64 d.bytes, .int .i64 d.frames, .int .i64 d.fan, .int .i64 d.buf, .int .i64 d.leaf, .int .i64 d.key, .int .i64 d.val]), Reg.Is (.bool (eqC c d)), Reg.Is (.bool true), Reg.Is (.bool true), Reg.Is (.bool true), Reg.Is (.agg #[.int .i64 c.blocks, .int .i64 c.bytes, .int .i64 c.frames, .int .i64 c.fan, .int .i64 c.buf, .int .i64 c.leaf, .int .i64 c.key, .int .i64 c.val]), Reg.Is (.agg #[.int .i64 c.blocks, .int .i64 c.bytes, .int .i64 c.frames, .int .i64 c.fan, .int .i64 c.buf, .int .i64 c.leaf, .int .i64 c.key, .int .i64 c.val]), Reg.Is (.bool true), Reg.Is (.bool true), Reg.Is (.bool true), Reg.Is (.bool true), Reg.Is (.bool true), Reg.Is (.bool true)]
        [some 8, some 9, some 10, some 11, some 12, some 13, some 14, some 15, some 16, some 17, some 18, some 19, some 20, some 21, some 22, some 23, some 24, some 25, some 26, some 27, some 28, some 29, some 30, some 31, some 32, some 33, some 34, some 35, some 36, some 37, some 4] (by kernel_rfl) (by rfl) (by rfl) (by rfl) rfl ⟨Reg.mono_is _, Reg.mono_is _, Reg.mono_is _, Reg.mono_is _, Reg.mono_is _, Reg.mono_is _, Reg.mono_is _, Reg.mono_is _, Reg.mono_is _, Reg.mono_any, Reg.mono_any, Reg.mono_is _, Reg.mono_is _, Reg.mono_is _, Reg.mono_is _, Reg.mono_is _, Reg.mono_is _, Reg.mono_is _, Reg.mono_is _, Reg.mono_is _, Reg.mono_is _, Reg.mono_is _, Reg.mono_is _, Reg.mono_is _, Reg.mono_is _, Reg.mono_is _, Reg.mono_is _, Reg.mono_is _, Reg.mono_is _, Reg.mono_is _, Reg.mono_is _, trivial⟩ (Reg.noneOk_of (by rfl)) ⟨?_, ?_, ?_, ?_, ?_, ?_, ?_, ?_, ?_, ?_, ?_, ?_, ?_, ?_, ?_, ?_, ?_, ?_, ?_, ?_, ?_, ?_, ?_, ?_, ?_, ?_, ?_, ?_, ?_, ?_, ?_, trivial⟩ ?_
    · intro a w hl   -- 0: slot 8
      have q5 : a.eval (.tmp 5) = .int .i64 0 := hl.out 5 rfl
      have qc : ∀ x, a.eval (.const x) = x := fun _ => rfl
      refine Reg.does_is (x := .int .i64 0) rfl rfl ?_
      clear hl
      generalize a.eval = ρ at *
      go_simp
    · intro a w hl   -- 1: slot 9
      have q8 : a.eval (.tmp 8) = .int .i64 0 := hl.has 0 rfl
      have qc : ∀ x, a.eval (.const x) = x := fun _ => rfl
      refine Reg.does_is (x := .bool true) rfl rfl ?_
      clear hl
      generalize a.eval = ρ at *
      go_simp
    · intro a w hl   -- 2: slot 10
      have q2 : a.eval (.tmp 2) = .pointer (some ⟨w0.heap.size, 0, none⟩) := hl.out 2 rfl
      have qc : ∀ x, a.eval (.const x) = x := fun _ => rfl
      refine Reg.does_is (x := .agg #[.int .i64 c.blocks, .int .i64 c.bytes, .int .i64 c.frames, .int .i64 c.fan, .int .i64 c.buf, .int .i64 c.leaf, .int .i64 c.key, .int .i64 c.val]) rfl rfl ?_
      have hblk := blk_below HBC.out hl.below
      have hc0 := (blk_cell hblk 0).trans rfl
      have hc1 := (blk_cell hblk 1).trans rfl
      have hc2 := (blk_cell hblk 2).trans rfl
      have hc3 := (blk_cell hblk 3).trans rfl
      have hc4 := (blk_cell hblk 4).trans rfl
      have hc5 := (blk_cell hblk 5).trans rfl
      have hc6 := (blk_cell hblk 6).trans rfl
      have hc7 := (blk_cell hblk 7).trans rfl
      clear hl hblk
      generalize a.eval = ρ at *
      go_simp
    · intro a w hl   -- 3: slot 11
      have q10 : a.eval (.tmp 10) = .agg #[.int .i64 c.blocks, .int .i64 c.bytes, .int .i64 c.frames, .int .i64 c.fan, .int .i64 c.buf, .int .i64 c.leaf, .int .i64 c.key, .int .i64 c.val] := hl.has 2 rfl
      have qc : ∀ x, a.eval (.const x) = x := fun _ => rfl
      refine Reg.does_call_is (x := .bool true) #[.agg #[.int .i64 c.blocks, .int .i64 c.bytes, .int .i64 c.frames, .int .i64 c.fan, .int .i64 c.buf, .int .i64 c.leaf, .int .i64 c.key, .int .i64 c.val]] rfl rfl Try.func6 (by kernel_rfl) rfl rfl (by simp [qc, q10]) ?_
      exact HRR.out w
    · intro a w hl   -- 4: slot 12
      have q9 : a.eval (.tmp 9) = .bool true := hl.has 1 rfl
      have q11 : a.eval (.tmp 11) = .bool true := hl.has 3 rfl
      have qc : ∀ x, a.eval (.const x) = x := fun _ => rfl
      refine Reg.does_is (x := .bool true) rfl rfl ?_
      clear hl
      generalize a.eval = ρ at *
      go_simp
    · intro a w hl   -- 5: slot 13
      have q12 : a.eval (.tmp 12) = .bool true := hl.has 4 rfl
      have qc : ∀ x, a.eval (.const x) = x := fun _ => rfl
      refine Reg.does_is (x := .bool true) rfl rfl ?_
      clear hl
      generalize a.eval = ρ at *
      go_simp
    · intro a w hl   -- 6: slot 14
      have q5 : a.eval (.tmp 5) = .int .i64 0 := hl.out 5 rfl
      have q13 : a.eval (.tmp 13) = .bool true := hl.has 5 rfl
      have qc : ∀ x, a.eval (.const x) = x := fun _ => rfl
      refine Reg.does_is (x := .int .i64 0) rfl (Reg.wanted_of rfl rfl (hl.yields 5 rfl rfl q13)) ?_
      clear hl
      generalize a.eval = ρ at *
      go_simp
    · intro a w hl   -- 7: slot 15
      have q14 : a.eval (.tmp 14) = .int .i64 0 := hl.has 6 rfl
      have q13 : a.eval (.tmp 13) = .bool true := hl.has 5 rfl
      have qc : ∀ x, a.eval (.const x) = x := fun _ => rfl
      refine Reg.does_is (x := .bool true) rfl (Reg.wanted_of rfl rfl (hl.yields 5 rfl rfl q13)) ?_
      clear hl
      generalize a.eval = ρ at *
      go_simp
    · intro a w hl   -- 8: slot 16
      have q15 : a.eval (.tmp 15) = .bool true := hl.has 7 rfl
      have q13 : a.eval (.tmp 13) = .bool true := hl.has 5 rfl
      have qc : ∀ x, a.eval (.const x) = x := fun _ => rfl
      refine Reg.does_is (x := .bool true) rfl (Reg.wanted_of rfl rfl (hl.yields 5 rfl rfl q13)) ?_
      clear hl
      generalize a.eval = ρ at *
      go_simp
    · intro a w hl   -- 9: slot 17
      have q16 : a.eval (.tmp 16) = .bool true := hl.has 8 rfl
      exact Reg.does_any rfl (Reg.wanted_not rfl rfl (hl.yields 8 rfl rfl q16))
    · intro a w hl   -- 10: slot 18
      have q16 : a.eval (.tmp 16) = .bool true := hl.has 8 rfl
      exact Reg.does_any rfl (Reg.wanted_not rfl rfl (hl.yields 8 rfl rfl q16))
    · intro a w hl   -- 11: slot 19
      have q16 : a.eval (.tmp 16) = .bool true := hl.has 8 rfl
      have q13 : a.eval (.tmp 13) = .bool true := hl.has 5 rfl
      have qc : ∀ x, a.eval (.const x) = x := fun _ => rfl
      refine Reg.does_is (x := .bool true) rfl (Reg.wanted_of rfl rfl (hl.yields 5 rfl rfl q13)) ?_
      clear hl
      generalize a.eval = ρ at *
      go_simp
    · intro a w hl   -- 12: slot 20
      have q13 : a.eval (.tmp 13) = .bool true := hl.has 5 rfl
      have q19 : a.eval (.tmp 19) = .bool true := hl.has 11 rfl
      have qc : ∀ x, a.eval (.const x) = x := fun _ => rfl
      refine Reg.does_is (x := .bool true) rfl rfl ?_
      clear hl
      generalize a.eval = ρ at *
      go_simp
    · intro a w hl   -- 13: slot 21
      have q20 : a.eval (.tmp 20) = .bool true := hl.has 12 rfl
      have qc : ∀ x, a.eval (.const x) = x := fun _ => rfl
      refine Reg.does_is (x := .bool true) rfl rfl ?_
      clear hl
      generalize a.eval = ρ at *
      go_simp
    · intro a w hl   -- 14: slot 22
      have q2 : a.eval (.tmp 2) = .pointer (some ⟨w0.heap.size, 0, none⟩) := hl.out 2 rfl
      have q21 : a.eval (.tmp 21) = .bool true := hl.has 13 rfl
      have qc : ∀ x, a.eval (.const x) = x := fun _ => rfl
      refine Reg.does_is (x := .agg #[.int .i64 c.blocks, .int .i64 c.bytes, .int .i64 c.frames, .int .i64 c.fan, .int .i64 c.buf, .int .i64 c.leaf, .int .i64 c.key, .int .i64 c.val]) rfl (Reg.wanted_of rfl rfl (hl.yields 13 rfl rfl q21)) ?_
      have hblk := blk_below HBC.out hl.below
      have hc0 := (blk_cell hblk 0).trans rfl
      have hc1 := (blk_cell hblk 1).trans rfl
      have hc2 := (blk_cell hblk 2).trans rfl
      have hc3 := (blk_cell hblk 3).trans rfl
      have hc4 := (blk_cell hblk 4).trans rfl
      have hc5 := (blk_cell hblk 5).trans rfl
      have hc6 := (blk_cell hblk 6).trans rfl
      have hc7 := (blk_cell hblk 7).trans rfl
      clear hl hblk
      generalize a.eval = ρ at *
      go_simp
    · intro a w hl   -- 15: slot 23
      have q3 : a.eval (.tmp 3) = .pointer (some ⟨w0.heap.size + 1, 0, none⟩) := hl.out 3 rfl
      have q21 : a.eval (.tmp 21) = .bool true := hl.has 13 rfl
      have qc : ∀ x, a.eval (.const x) = x := fun _ => rfl
      refine Reg.does_is (x := .agg #[.int .i64 d.blocks, .int .i64 d.bytes, .int .i64 d.frames, .int .i64 d.fan, .int .i64 d.buf, .int .i64 d.leaf, .int .i64 d.key, .int .i64 d.val]) rfl (Reg.wanted_of rfl rfl (hl.yields 13 rfl rfl q21)) ?_
      have hblk := blk_below HBD.out hl.below
      have hc0 := (blk_cell hblk 0).trans rfl
      have hc1 := (blk_cell hblk 1).trans rfl
      have hc2 := (blk_cell hblk 2).trans rfl
      have hc3 := (blk_cell hblk 3).trans rfl
      have hc4 := (blk_cell hblk 4).trans rfl
      have hc5 := (blk_cell hblk 5).trans rfl
      have hc6 := (blk_cell hblk 6).trans rfl
      have hc7 := (blk_cell hblk 7).trans rfl
      clear hl hblk
      generalize a.eval = ρ at *
      go_simp
    · intro a w hl   -- 16: slot 24
      have q22 : a.eval (.tmp 22) = .agg #[.int .i64 c.blocks, .int .i64 c.bytes, .int .i64 c.frames, .int .i64 c.fan, .int .i64 c.buf, .int .i64 c.leaf, .int .i64 c.key, .int .i64 c.val] := hl.has 14 rfl
      have q23 : a.eval (.tmp 23) = .agg #[.int .i64 d.blocks, .int .i64 d.bytes, .int .i64 d.frames, .int .i64 d.fan, .int .i64 d.buf, .int .i64 d.leaf, .int .i64 d.key, .int .i64 d.val] := hl.has 15 rfl
      have q21 : a.eval (.tmp 21) = .bool true := hl.has 13 rfl
      have qc : ∀ x, a.eval (.const x) = x := fun _ => rfl
      refine Reg.does_call_is (x := .bool (eqC c d)) #[.agg #[.int .i64 c.blocks, .int .i64 c.bytes, .int .i64 c.frames, .int .i64 c.fan, .int .i64 c.buf, .int .i64 c.leaf, .int .i64 c.key, .int .i64 c.val], .agg #[.int .i64 d.blocks, .int .i64 d.bytes, .int .i64 d.frames, .int .i64 d.fan, .int .i64 d.buf, .int .i64 d.leaf, .int .i64 d.key, .int .i64 d.val]] rfl (Reg.wanted_of rfl rfl (hl.yields 13 rfl rfl q21)) Try.func9 (by kernel_rfl) rfl rfl (by simp [qc, q22, q23]) ?_
      exact same_calls c d w
    · intro a w hl   -- 17: slot 25
      have q2 : a.eval (.tmp 2) = .pointer (some ⟨w0.heap.size, 0, none⟩) := hl.out 2 rfl
      have q21 : a.eval (.tmp 21) = .bool true := hl.has 13 rfl
      have qc : ∀ x, a.eval (.const x) = x := fun _ => rfl
      refine Reg.does_is (x := .agg #[.int .i64 c.blocks, .int .i64 c.bytes, .int .i64 c.frames, .int .i64 c.fan, .int .i64 c.buf, .int .i64 c.leaf, .int .i64 c.key, .int .i64 c.val]) rfl (Reg.wanted_of rfl rfl (hl.yields 13 rfl rfl q21)) ?_
      have hblk := blk_below HBC.out hl.below
      have hc0 := (blk_cell hblk 0).trans rfl
      have hc1 := (blk_cell hblk 1).trans rfl
      have hc2 := (blk_cell hblk 2).trans rfl
      have hc3 := (blk_cell hblk 3).trans rfl
      have hc4 := (blk_cell hblk 4).trans rfl
      have hc5 := (blk_cell hblk 5).trans rfl
      have hc6 := (blk_cell hblk 6).trans rfl
      have hc7 := (blk_cell hblk 7).trans rfl
      clear hl hblk
      generalize a.eval = ρ at *
      go_simp
    · intro a w hl   -- 18: slot 26
      have q3 : a.eval (.tmp 3) = .pointer (some ⟨w0.heap.size + 1, 0, none⟩) := hl.out 3 rfl
      have q21 : a.eval (.tmp 21) = .bool true := hl.has 13 rfl
      have qc : ∀ x, a.eval (.const x) = x := fun _ => rfl
      refine Reg.does_is (x := .agg #[.int .i64 d.blocks, .int .i64 d.bytes, .int .i64 d.frames, .int .i64 d.fan, .int .i64 d.buf, .int .i64 d.leaf, .int .i64 d.key, .int .i64 d.val]) rfl (Reg.wanted_of rfl rfl (hl.yields 13 rfl rfl q21)) ?_
      have hblk := blk_below HBD.out hl.below
      have hc0 := (blk_cell hblk 0).trans rfl
      have hc1 := (blk_cell hblk 1).trans rfl
      have hc2 := (blk_cell hblk 2).trans rfl
      have hc3 := (blk_cell hblk 3).trans rfl
      have hc4 := (blk_cell hblk 4).trans rfl
      have hc5 := (blk_cell hblk 5).trans rfl
      have hc6 := (blk_cell hblk 6).trans rfl
      have hc7 := (blk_cell hblk 7).trans rfl
      clear hl hblk
      generalize a.eval = ρ at *
      go_simp
    · intro a w hl   -- 19: slot 27
      have q25 : a.eval (.tmp 25) = .agg #[.int .i64 c.blocks, .int .i64 c.bytes, .int .i64 c.frames, .int .i64 c.fan, .int .i64 c.buf, .int .i64 c.leaf, .int .i64 c.key, .int .i64 c.val] := hl.has 17 rfl
      have q26 : a.eval (.tmp 26) = .agg #[.int .i64 d.blocks, .int .i64 d.bytes, .int .i64 d.frames, .int .i64 d.fan, .int .i64 d.buf, .int .i64 d.leaf, .int .i64 d.key, .int .i64 d.val] := hl.has 18 rfl
      have q21 : a.eval (.tmp 21) = .bool true := hl.has 13 rfl
      have qc : ∀ x, a.eval (.const x) = x := fun _ => rfl
      refine Reg.does_is (x := .bool (eqC c d)) rfl (Reg.wanted_of rfl rfl (hl.yields 13 rfl rfl q21)) ?_
      clear hl
      generalize a.eval = ρ at *
      simp only [execOp, q25, q26]
      simp only [Sem.run_bind, guard_cfg, eql_cfg c d w, Result.andThen_ok, Sem.run_pure]
    · intro a w hl   -- 20: slot 28
      have q24 : a.eval (.tmp 24) = .bool (eqC c d) := hl.has 16 rfl
      have q27 : a.eval (.tmp 27) = .bool (eqC c d) := hl.has 19 rfl
      have q21 : a.eval (.tmp 21) = .bool true := hl.has 13 rfl
      have qc : ∀ x, a.eval (.const x) = x := fun _ => rfl
      refine Reg.does_is (x := .bool true) rfl (Reg.wanted_of rfl rfl (hl.yields 13 rfl rfl q21)) ?_
      clear hl
      generalize a.eval = ρ at *
      go_simp
    · intro a w hl   -- 21: slot 29
      have q21 : a.eval (.tmp 21) = .bool true := hl.has 13 rfl
      have q28 : a.eval (.tmp 28) = .bool true := hl.has 20 rfl
      have qc : ∀ x, a.eval (.const x) = x := fun _ => rfl
      refine Reg.does_is (x := .bool true) rfl rfl ?_
      clear hl
      generalize a.eval = ρ at *
      go_simp
    · intro a w hl   -- 22: slot 30
      have q29 : a.eval (.tmp 29) = .bool true := hl.has 21 rfl
      have qc : ∀ x, a.eval (.const x) = x := fun _ => rfl
      refine Reg.does_is (x := .bool true) rfl rfl ?_
      clear hl
      generalize a.eval = ρ at *
      go_simp
    · intro a w hl   -- 23: slot 31
      have q2 : a.eval (.tmp 2) = .pointer (some ⟨w0.heap.size, 0, none⟩) := hl.out 2 rfl
      have q30 : a.eval (.tmp 30) = .bool true := hl.has 22 rfl
      have qc : ∀ x, a.eval (.const x) = x := fun _ => rfl
      refine Reg.does_is (x := .agg #[.int .i64 c.blocks, .int .i64 c.bytes, .int .i64 c.frames, .int .i64 c.fan, .int .i64 c.buf, .int .i64 c.leaf, .int .i64 c.key, .int .i64 c.val]) rfl (Reg.wanted_of rfl rfl (hl.yields 22 rfl rfl q30)) ?_
      have hblk := blk_below HBC.out hl.below
      have hc0 := (blk_cell hblk 0).trans rfl
      have hc1 := (blk_cell hblk 1).trans rfl
      have hc2 := (blk_cell hblk 2).trans rfl
      have hc3 := (blk_cell hblk 3).trans rfl
      have hc4 := (blk_cell hblk 4).trans rfl
      have hc5 := (blk_cell hblk 5).trans rfl
      have hc6 := (blk_cell hblk 6).trans rfl
      have hc7 := (blk_cell hblk 7).trans rfl
      clear hl hblk
      generalize a.eval = ρ at *
      go_simp
    · intro a w hl   -- 24: slot 32
      have q2 : a.eval (.tmp 2) = .pointer (some ⟨w0.heap.size, 0, none⟩) := hl.out 2 rfl
      have q30 : a.eval (.tmp 30) = .bool true := hl.has 22 rfl
      have qc : ∀ x, a.eval (.const x) = x := fun _ => rfl
      refine Reg.does_is (x := .agg #[.int .i64 c.blocks, .int .i64 c.bytes, .int .i64 c.frames, .int .i64 c.fan, .int .i64 c.buf, .int .i64 c.leaf, .int .i64 c.key, .int .i64 c.val]) rfl (Reg.wanted_of rfl rfl (hl.yields 22 rfl rfl q30)) ?_
      have hblk := blk_below HBC.out hl.below
      have hc0 := (blk_cell hblk 0).trans rfl
      have hc1 := (blk_cell hblk 1).trans rfl
      have hc2 := (blk_cell hblk 2).trans rfl
      have hc3 := (blk_cell hblk 3).trans rfl
      have hc4 := (blk_cell hblk 4).trans rfl
      have hc5 := (blk_cell hblk 5).trans rfl
      have hc6 := (blk_cell hblk 6).trans rfl
      have hc7 := (blk_cell hblk 7).trans rfl
      clear hl hblk
      generalize a.eval = ρ at *
      go_simp
    · intro a w hl   -- 25: slot 33
      have q31 : a.eval (.tmp 31) = .agg #[.int .i64 c.blocks, .int .i64 c.bytes, .int .i64 c.frames, .int .i64 c.fan, .int .i64 c.buf, .int .i64 c.leaf, .int .i64 c.key, .int .i64 c.val] := hl.has 23 rfl
      have q32 : a.eval (.tmp 32) = .agg #[.int .i64 c.blocks, .int .i64 c.bytes, .int .i64 c.frames, .int .i64 c.fan, .int .i64 c.buf, .int .i64 c.leaf, .int .i64 c.key, .int .i64 c.val] := hl.has 24 rfl
      have q30 : a.eval (.tmp 30) = .bool true := hl.has 22 rfl
      have qc : ∀ x, a.eval (.const x) = x := fun _ => rfl
      refine Reg.does_call_is (x := .bool true) #[.agg #[.int .i64 c.blocks, .int .i64 c.bytes, .int .i64 c.frames, .int .i64 c.fan, .int .i64 c.buf, .int .i64 c.leaf, .int .i64 c.key, .int .i64 c.val], .agg #[.int .i64 c.blocks, .int .i64 c.bytes, .int .i64 c.frames, .int .i64 c.fan, .int .i64 c.buf, .int .i64 c.leaf, .int .i64 c.key, .int .i64 c.val]] rfl (Reg.wanted_of rfl rfl (hl.yields 22 rfl rfl q30)) Try.func9 (by kernel_rfl) rfl rfl (by simp [qc, q31, q32]) ?_
      have h := same_calls c c w
      rw [eqC_self] at h
      exact h
    · intro a w hl   -- 26: slot 34
      have q30 : a.eval (.tmp 30) = .bool true := hl.has 22 rfl
      have q33 : a.eval (.tmp 33) = .bool true := hl.has 25 rfl
      have qc : ∀ x, a.eval (.const x) = x := fun _ => rfl
      refine Reg.does_is (x := .bool true) rfl rfl ?_
      clear hl
      generalize a.eval = ρ at *
      go_simp
    · intro a w hl   -- 27: slot 35
      have q34 : a.eval (.tmp 34) = .bool true := hl.has 26 rfl
      have qc : ∀ x, a.eval (.const x) = x := fun _ => rfl
      refine Reg.does_is (x := .bool true) rfl rfl ?_
      clear hl
      generalize a.eval = ρ at *
      go_simp
    · intro a w hl   -- 28: slot 36
      have q35 : a.eval (.tmp 35) = .bool true := hl.has 27 rfl
      have qc : ∀ x, a.eval (.const x) = x := fun _ => rfl
      refine Reg.does_call_is (x := .bool true) #[] rfl (Reg.wanted_of rfl rfl (hl.yields 27 rfl rfl q35)) Try.func7 (by kernel_rfl) rfl rfl (by simp [qc]) ?_
      exact awake_calls w
    · intro a w hl   -- 29: slot 37
      have q35 : a.eval (.tmp 35) = .bool true := hl.has 27 rfl
      have q36 : a.eval (.tmp 36) = .bool true := hl.has 28 rfl
      have qc : ∀ x, a.eval (.const x) = x := fun _ => rfl
      refine Reg.does_is (x := .bool true) rfl rfl ?_
      clear hl
      generalize a.eval = ρ at *
      go_simp
    · intro a w hl   -- 30: slot 4
      have q37 : a.eval (.tmp 37) = .bool true := hl.has 29 rfl
      have qc : ∀ x, a.eval (.const x) = x := fun _ => rfl
      refine Reg.does_is (x := .bool true) rfl rfl ?_
      clear hl
      generalize a.eval = ρ at *
      go_simp
    · rintro v w hb ⟨e8, e9, e10, e11, e12, e13, e14, e15, e16, _, _, e19, e20, e21, e22, e23, e24, e25, e26, e27, e28, e29, e30, e31, e32, e33, e34, e35, e36, e37, e4, _⟩
      replace e8 : v 0 = .int .i64 0 := e8
      replace e9 : v 1 = .bool true := e9
      replace e10 : v 2 = .agg #[.int .i64 c.blocks, .int .i64 c.bytes, .int .i64 c.frames, .int .i64 c.fan, .int .i64 c.buf, .int .i64 c.leaf, .int .i64 c.key, .int .i64 c.val] := e10
      replace e11 : v 3 = .bool true := e11
      replace e12 : v 4 = .bool true := e12
      replace e13 : v 5 = .bool true := e13
      replace e14 : v 6 = .int .i64 0 := e14
      replace e15 : v 7 = .bool true := e15
      replace e16 : v 8 = .bool true := e16
      replace e19 : v 11 = .bool true := e19
      replace e20 : v 12 = .bool true := e20
      replace e21 : v 13 = .bool true := e21
      replace e22 : v 14 = .agg #[.int .i64 c.blocks, .int .i64 c.bytes, .int .i64 c.frames, .int .i64 c.fan, .int .i64 c.buf, .int .i64 c.leaf, .int .i64 c.key, .int .i64 c.val] := e22
      replace e23 : v 15 = .agg #[.int .i64 d.blocks, .int .i64 d.bytes, .int .i64 d.frames, .int .i64 d.fan, .int .i64 d.buf, .int .i64 d.leaf, .int .i64 d.key, .int .i64 d.val] := e23
      replace e24 : v 16 = .bool (eqC c d) := e24
      replace e25 : v 17 = .agg #[.int .i64 c.blocks, .int .i64 c.bytes, .int .i64 c.frames, .int .i64 c.fan, .int .i64 c.buf, .int .i64 c.leaf, .int .i64 c.key, .int .i64 c.val] := e25
      replace e26 : v 18 = .agg #[.int .i64 d.blocks, .int .i64 d.bytes, .int .i64 d.frames, .int .i64 d.fan, .int .i64 d.buf, .int .i64 d.leaf, .int .i64 d.key, .int .i64 d.val] := e26
      replace e27 : v 19 = .bool (eqC c d) := e27
      replace e28 : v 20 = .bool true := e28
      replace e29 : v 21 = .bool true := e29
      replace e30 : v 22 = .bool true := e30
      replace e31 : v 23 = .agg #[.int .i64 c.blocks, .int .i64 c.bytes, .int .i64 c.frames, .int .i64 c.fan, .int .i64 c.buf, .int .i64 c.leaf, .int .i64 c.key, .int .i64 c.val] := e31
      replace e32 : v 24 = .agg #[.int .i64 c.blocks, .int .i64 c.bytes, .int .i64 c.frames, .int .i64 c.fan, .int .i64 c.buf, .int .i64 c.leaf, .int .i64 c.key, .int .i64 c.val] := e32
      replace e33 : v 25 = .bool true := e33
      replace e34 : v 26 = .bool true := e34
      replace e35 : v 27 = .bool true := e35
      replace e36 : v 28 = .bool true := e36
      replace e37 : v 29 = .bool true := e37
      replace e4 : v 30 = .bool true := e4
      simp only [Reg.putL, Act.put, List.setIfInBounds_toArray, List.set_cons_zero, List.set_cons_succ, e8, e9, e10, e11, e12, e13, e14, e15, e16, e19, e20, e21, e22, e23, e24, e25, e26, e27, e28, e29, e30, e31, e32, e33, e34, e35, e36, e37, e4]
      clear e8 e9 e10 e11 e12 e13 e14 e15 e16 e19 e20 e21 e22 e23 e24 e25 e26 e27 e28 e29 e30 e31 e32 e33 e34 e35 e36 e37 e4
      go_wp2
      go_ret
      exact ⟨rfl, below_step HB.out hb⟩
  · have hck := fun w => check_calls c w
    rw [if_neg h] at hck
    have hrr := fun w => rright_calls c w
    rw [show decide c.right = false from decide_eq_false h] at hrr
    have HCK := Aside0.mk hck
    have HRR := Aside0.mk hrr
    clear hck hrr h
    go_enter Try.func4, Try.ntmps4
    go_wp2_with fail
    refine (HCK.out _).mono ?_
    rintro e w1 ⟨rfl, hb1⟩
    have hbc : w1.heap[w0.heap.size]? = some (.cells #[.int .i64 c.blocks, .int .i64 c.bytes, .int .i64 c.frames, .int .i64 c.fan, .int .i64 c.buf, .int .i64 c.leaf, .int .i64 c.key, .int .i64 c.val] 23 (0, 0)) := blk_below (blk_alloc (blk_new w0 _) _) hb1
    have hbd : w1.heap[w0.heap.size + 1]? = some (.cells #[.int .i64 d.blocks, .int .i64 d.bytes, .int .i64 d.frames, .int .i64 d.fan, .int .i64 d.buf, .int .i64 d.leaf, .int .i64 d.key, .int .i64 d.val] 23 (0, 0)) := blk_below (by
      have := blk_new (w0.alloc (.cells #[.int .i64 c.blocks, .int .i64 c.bytes, .int .i64 c.frames, .int .i64 c.fan, .int .i64 c.buf, .int .i64 c.leaf, .int .i64 c.key, .int .i64 c.val] 23 (0, 0))) (.cells #[.int .i64 d.blocks, .int .i64 d.bytes, .int .i64 d.frames, .int .i64 d.fan, .int .i64 d.buf, .int .i64 d.leaf, .int .i64 d.key, .int .i64 d.val] 23 (0, 0))
      simpa using this) hb1
    have HB := Aside0.mk (below_step (below_alloc (below_alloc (Below.refl _ _) _) _) hb1)
    have HBC := Aside0.mk hbc
    have HBD := Aside0.mk hbd
    clear hb1 hbc hbd
    go_wp2_with fail
    refine Reg.region_list [Reg.Is (.int .i64 2), Reg.Is (.bool false), Reg.Is (.agg #[.int .i64 c.blocks, .int .i64 c.bytes, .int .i64 c.frames, .int .i64 c.fan, .int .i64 c.buf, .int .i64 c.leaf, .int .i64 c.key, .int .i64 c.val]), Reg.Is (.bool false), Reg.Is (.bool true), Reg.Is (.bool true), Reg.Is (.int .i64 2), Reg.Is (.bool false), Reg.Is (.bool false), Reg.Is (.int .i64 2), Reg.Is (.bool true), Reg.Is (.bool true), Reg.Is (.bool true), Reg.Is (.bool true), Reg.Is (.agg #[.int .i64 c.blocks, .int .i64 c.bytes, .int .i64 c.frames, .int .i64 c.fan, .int .i64 c.buf, .int .i64 c.leaf, .int .i64 c.key, .int .i64 c.val]), Reg.Is (.agg #[.int .i64 d.blocks, .int .i64 d.bytes, .int .i64 d.frames, .int .i64 d.fan, .int .i64 d.buf, .int .i64 d.leaf, .int .i64 d.key, .int .i64 d.val]), Reg.Is (.bool (eqC c d)), Reg.Is (.agg #[.int .i64 c.blocks, .int .i64 c.bytes, .int .i64 c.frames, .int .i64 c.fan, .int .i64 c.buf, .int .i64 c.leaf, .int .i64 c.key, .int .i64 c.val]), Reg.Is (.agg #[.int .i64 d.blocks, .int .i64 d.bytes, .int .i64 d.frames, .int .i64 d.fan, .int .i64 d.buf, .int .i64 d.leaf, .int .i64 d.key, .int .i64 d.val]), Reg.Is (.bool (eqC c d)), Reg.Is (.bool true), Reg.Is (.bool true), Reg.Is (.bool true), Reg.Is (.agg #[.int .i64 c.blocks, .int .i64 c.bytes, .int .i64 c.frames, .int .i64 c.fan, .int .i64 c.buf, .int .i64 c.leaf, .int .i64 c.key, .int .i64 c.val]), Reg.Is (.agg #[.int .i64 c.blocks, .int .i64 c.bytes, .int .i64 c.frames, .int .i64 c.fan, .int .i64 c.buf, .int .i64 c.leaf, .int .i64 c.key, .int .i64 c.val]), Reg.Is (.bool true), Reg.Is (.bool true), Reg.Is (.bool true), Reg.Is (.bool true), Reg.Is (.bool true), Reg.Is (.bool true)]
        [some 8, some 9, some 10, some 11, some 12, some 13, some 14, some 15, some 16, some 17, some 18, some 19, some 20, some 21, some 22, some 23, some 24, some 25, some 26, some 27, some 28, some 29, some 30, some 31, some 32, some 33, some 34, some 35, some 36, some 37, some 4] (by kernel_rfl) (by rfl) (by rfl) (by rfl) rfl ⟨Reg.mono_is _, Reg.mono_is _, Reg.mono_is _, Reg.mono_is _, Reg.mono_is _, Reg.mono_is _, Reg.mono_is _, Reg.mono_is _, Reg.mono_is _, Reg.mono_is _, Reg.mono_is _, Reg.mono_is _, Reg.mono_is _, Reg.mono_is _, Reg.mono_is _, Reg.mono_is _, Reg.mono_is _, Reg.mono_is _, Reg.mono_is _, Reg.mono_is _, Reg.mono_is _, Reg.mono_is _, Reg.mono_is _, Reg.mono_is _, Reg.mono_is _, Reg.mono_is _, Reg.mono_is _, Reg.mono_is _, Reg.mono_is _, Reg.mono_is _, Reg.mono_is _, trivial⟩ (Reg.noneOk_of (by rfl)) ⟨?_, ?_, ?_, ?_, ?_, ?_, ?_, ?_, ?_, ?_, ?_, ?_, ?_, ?_, ?_, ?_, ?_, ?_, ?_, ?_, ?_, ?_, ?_, ?_, ?_, ?_, ?_, ?_, ?_, ?_, ?_, trivial⟩ ?_
    · intro a w hl   -- 0: slot 8
      have q5 : a.eval (.tmp 5) = .int .i64 2 := hl.out 5 rfl
      have qc : ∀ x, a.eval (.const x) = x := fun _ => rfl
      refine Reg.does_is (x := .int .i64 2) rfl rfl ?_
      clear hl
      generalize a.eval = ρ at *
      go_simp
    · intro a w hl   -- 1: slot 9
      have q8 : a.eval (.tmp 8) = .int .i64 2 := hl.has 0 rfl
      have qc : ∀ x, a.eval (.const x) = x := fun _ => rfl
      refine Reg.does_is (x := .bool false) rfl rfl ?_
      clear hl
      generalize a.eval = ρ at *
      go_simp
    · intro a w hl   -- 2: slot 10
      have q2 : a.eval (.tmp 2) = .pointer (some ⟨w0.heap.size, 0, none⟩) := hl.out 2 rfl
      have qc : ∀ x, a.eval (.const x) = x := fun _ => rfl
      refine Reg.does_is (x := .agg #[.int .i64 c.blocks, .int .i64 c.bytes, .int .i64 c.frames, .int .i64 c.fan, .int .i64 c.buf, .int .i64 c.leaf, .int .i64 c.key, .int .i64 c.val]) rfl rfl ?_
      have hblk := blk_below HBC.out hl.below
      have hc0 := (blk_cell hblk 0).trans rfl
      have hc1 := (blk_cell hblk 1).trans rfl
      have hc2 := (blk_cell hblk 2).trans rfl
      have hc3 := (blk_cell hblk 3).trans rfl
      have hc4 := (blk_cell hblk 4).trans rfl
      have hc5 := (blk_cell hblk 5).trans rfl
      have hc6 := (blk_cell hblk 6).trans rfl
      have hc7 := (blk_cell hblk 7).trans rfl
      clear hl hblk
      generalize a.eval = ρ at *
      go_simp
    · intro a w hl   -- 3: slot 11
      have q10 : a.eval (.tmp 10) = .agg #[.int .i64 c.blocks, .int .i64 c.bytes, .int .i64 c.frames, .int .i64 c.fan, .int .i64 c.buf, .int .i64 c.leaf, .int .i64 c.key, .int .i64 c.val] := hl.has 2 rfl
      have qc : ∀ x, a.eval (.const x) = x := fun _ => rfl
      refine Reg.does_call_is (x := .bool false) #[.agg #[.int .i64 c.blocks, .int .i64 c.bytes, .int .i64 c.frames, .int .i64 c.fan, .int .i64 c.buf, .int .i64 c.leaf, .int .i64 c.key, .int .i64 c.val]] rfl rfl Try.func6 (by kernel_rfl) rfl rfl (by simp [qc, q10]) ?_
      exact HRR.out w
    · intro a w hl   -- 4: slot 12
      have q9 : a.eval (.tmp 9) = .bool false := hl.has 1 rfl
      have q11 : a.eval (.tmp 11) = .bool false := hl.has 3 rfl
      have qc : ∀ x, a.eval (.const x) = x := fun _ => rfl
      refine Reg.does_is (x := .bool true) rfl rfl ?_
      clear hl
      generalize a.eval = ρ at *
      go_simp
    · intro a w hl   -- 5: slot 13
      have q12 : a.eval (.tmp 12) = .bool true := hl.has 4 rfl
      have qc : ∀ x, a.eval (.const x) = x := fun _ => rfl
      refine Reg.does_is (x := .bool true) rfl rfl ?_
      clear hl
      generalize a.eval = ρ at *
      go_simp
    · intro a w hl   -- 6: slot 14
      have q5 : a.eval (.tmp 5) = .int .i64 2 := hl.out 5 rfl
      have q13 : a.eval (.tmp 13) = .bool true := hl.has 5 rfl
      have qc : ∀ x, a.eval (.const x) = x := fun _ => rfl
      refine Reg.does_is (x := .int .i64 2) rfl (Reg.wanted_of rfl rfl (hl.yields 5 rfl rfl q13)) ?_
      clear hl
      generalize a.eval = ρ at *
      go_simp
    · intro a w hl   -- 7: slot 15
      have q14 : a.eval (.tmp 14) = .int .i64 2 := hl.has 6 rfl
      have q13 : a.eval (.tmp 13) = .bool true := hl.has 5 rfl
      have qc : ∀ x, a.eval (.const x) = x := fun _ => rfl
      refine Reg.does_is (x := .bool false) rfl (Reg.wanted_of rfl rfl (hl.yields 5 rfl rfl q13)) ?_
      clear hl
      generalize a.eval = ρ at *
      go_simp
    · intro a w hl   -- 8: slot 16
      have q15 : a.eval (.tmp 15) = .bool false := hl.has 7 rfl
      have q13 : a.eval (.tmp 13) = .bool true := hl.has 5 rfl
      have qc : ∀ x, a.eval (.const x) = x := fun _ => rfl
      refine Reg.does_is (x := .bool false) rfl (Reg.wanted_of rfl rfl (hl.yields 5 rfl rfl q13)) ?_
      clear hl
      generalize a.eval = ρ at *
      go_simp
    · intro a w hl   -- 9: slot 17
      have q5 : a.eval (.tmp 5) = .int .i64 2 := hl.out 5 rfl
      have q16 : a.eval (.tmp 16) = .bool false := hl.has 8 rfl
      have qc : ∀ x, a.eval (.const x) = x := fun _ => rfl
      refine Reg.does_is (x := .int .i64 2) rfl (Reg.wanted_of rfl rfl (hl.yields 8 rfl rfl q16)) ?_
      clear hl
      generalize a.eval = ρ at *
      go_simp
    · intro a w hl   -- 10: slot 18
      have q17 : a.eval (.tmp 17) = .int .i64 2 := hl.has 9 rfl
      have q16 : a.eval (.tmp 16) = .bool false := hl.has 8 rfl
      have qc : ∀ x, a.eval (.const x) = x := fun _ => rfl
      refine Reg.does_is (x := .bool true) rfl (Reg.wanted_of rfl rfl (hl.yields 8 rfl rfl q16)) ?_
      clear hl
      generalize a.eval = ρ at *
      go_simp
    · intro a w hl   -- 11: slot 19
      have q16 : a.eval (.tmp 16) = .bool false := hl.has 8 rfl
      have q18 : a.eval (.tmp 18) = .bool true := hl.has 10 rfl
      have q13 : a.eval (.tmp 13) = .bool true := hl.has 5 rfl
      have qc : ∀ x, a.eval (.const x) = x := fun _ => rfl
      refine Reg.does_is (x := .bool true) rfl (Reg.wanted_of rfl rfl (hl.yields 5 rfl rfl q13)) ?_
      clear hl
      generalize a.eval = ρ at *
      go_simp
    · intro a w hl   -- 12: slot 20
      have q13 : a.eval (.tmp 13) = .bool true := hl.has 5 rfl
      have q19 : a.eval (.tmp 19) = .bool true := hl.has 11 rfl
      have qc : ∀ x, a.eval (.const x) = x := fun _ => rfl
      refine Reg.does_is (x := .bool true) rfl rfl ?_
      clear hl
      generalize a.eval = ρ at *
      go_simp
    · intro a w hl   -- 13: slot 21
      have q20 : a.eval (.tmp 20) = .bool true := hl.has 12 rfl
      have qc : ∀ x, a.eval (.const x) = x := fun _ => rfl
      refine Reg.does_is (x := .bool true) rfl rfl ?_
      clear hl
      generalize a.eval = ρ at *
      go_simp
    · intro a w hl   -- 14: slot 22
      have q2 : a.eval (.tmp 2) = .pointer (some ⟨w0.heap.size, 0, none⟩) := hl.out 2 rfl
      have q21 : a.eval (.tmp 21) = .bool true := hl.has 13 rfl
      have qc : ∀ x, a.eval (.const x) = x := fun _ => rfl
      refine Reg.does_is (x := .agg #[.int .i64 c.blocks, .int .i64 c.bytes, .int .i64 c.frames, .int .i64 c.fan, .int .i64 c.buf, .int .i64 c.leaf, .int .i64 c.key, .int .i64 c.val]) rfl (Reg.wanted_of rfl rfl (hl.yields 13 rfl rfl q21)) ?_
      have hblk := blk_below HBC.out hl.below
      have hc0 := (blk_cell hblk 0).trans rfl
      have hc1 := (blk_cell hblk 1).trans rfl
      have hc2 := (blk_cell hblk 2).trans rfl
      have hc3 := (blk_cell hblk 3).trans rfl
      have hc4 := (blk_cell hblk 4).trans rfl
      have hc5 := (blk_cell hblk 5).trans rfl
      have hc6 := (blk_cell hblk 6).trans rfl
      have hc7 := (blk_cell hblk 7).trans rfl
      clear hl hblk
      generalize a.eval = ρ at *
      go_simp
    · intro a w hl   -- 15: slot 23
      have q3 : a.eval (.tmp 3) = .pointer (some ⟨w0.heap.size + 1, 0, none⟩) := hl.out 3 rfl
      have q21 : a.eval (.tmp 21) = .bool true := hl.has 13 rfl
      have qc : ∀ x, a.eval (.const x) = x := fun _ => rfl
      refine Reg.does_is (x := .agg #[.int .i64 d.blocks, .int .i64 d.bytes, .int .i64 d.frames, .int .i64 d.fan, .int .i64 d.buf, .int .i64 d.leaf, .int .i64 d.key, .int .i64 d.val]) rfl (Reg.wanted_of rfl rfl (hl.yields 13 rfl rfl q21)) ?_
      have hblk := blk_below HBD.out hl.below
      have hc0 := (blk_cell hblk 0).trans rfl
      have hc1 := (blk_cell hblk 1).trans rfl
      have hc2 := (blk_cell hblk 2).trans rfl
      have hc3 := (blk_cell hblk 3).trans rfl
      have hc4 := (blk_cell hblk 4).trans rfl
      have hc5 := (blk_cell hblk 5).trans rfl
      have hc6 := (blk_cell hblk 6).trans rfl
      have hc7 := (blk_cell hblk 7).trans rfl
      clear hl hblk
      generalize a.eval = ρ at *
      go_simp
    · intro a w hl   -- 16: slot 24
      have q22 : a.eval (.tmp 22) = .agg #[.int .i64 c.blocks, .int .i64 c.bytes, .int .i64 c.frames, .int .i64 c.fan, .int .i64 c.buf, .int .i64 c.leaf, .int .i64 c.key, .int .i64 c.val] := hl.has 14 rfl
      have q23 : a.eval (.tmp 23) = .agg #[.int .i64 d.blocks, .int .i64 d.bytes, .int .i64 d.frames, .int .i64 d.fan, .int .i64 d.buf, .int .i64 d.leaf, .int .i64 d.key, .int .i64 d.val] := hl.has 15 rfl
      have q21 : a.eval (.tmp 21) = .bool true := hl.has 13 rfl
      have qc : ∀ x, a.eval (.const x) = x := fun _ => rfl
      refine Reg.does_call_is (x := .bool (eqC c d)) #[.agg #[.int .i64 c.blocks, .int .i64 c.bytes, .int .i64 c.frames, .int .i64 c.fan, .int .i64 c.buf, .int .i64 c.leaf, .int .i64 c.key, .int .i64 c.val], .agg #[.int .i64 d.blocks, .int .i64 d.bytes, .int .i64 d.frames, .int .i64 d.fan, .int .i64 d.buf, .int .i64 d.leaf, .int .i64 d.key, .int .i64 d.val]] rfl (Reg.wanted_of rfl rfl (hl.yields 13 rfl rfl q21)) Try.func9 (by kernel_rfl) rfl rfl (by simp [qc, q22, q23]) ?_
      exact same_calls c d w
    · intro a w hl   -- 17: slot 25
      have q2 : a.eval (.tmp 2) = .pointer (some ⟨w0.heap.size, 0, none⟩) := hl.out 2 rfl
      have q21 : a.eval (.tmp 21) = .bool true := hl.has 13 rfl
      have qc : ∀ x, a.eval (.const x) = x := fun _ => rfl
      refine Reg.does_is (x := .agg #[.int .i64 c.blocks, .int .i64 c.bytes, .int .i64 c.frames, .int .i64 c.fan, .int .i64 c.buf, .int .i64 c.leaf, .int .i64 c.key, .int .i64 c.val]) rfl (Reg.wanted_of rfl rfl (hl.yields 13 rfl rfl q21)) ?_
      have hblk := blk_below HBC.out hl.below
      have hc0 := (blk_cell hblk 0).trans rfl
      have hc1 := (blk_cell hblk 1).trans rfl
      have hc2 := (blk_cell hblk 2).trans rfl
      have hc3 := (blk_cell hblk 3).trans rfl
      have hc4 := (blk_cell hblk 4).trans rfl
      have hc5 := (blk_cell hblk 5).trans rfl
      have hc6 := (blk_cell hblk 6).trans rfl
      have hc7 := (blk_cell hblk 7).trans rfl
      clear hl hblk
      generalize a.eval = ρ at *
      go_simp
    · intro a w hl   -- 18: slot 26
      have q3 : a.eval (.tmp 3) = .pointer (some ⟨w0.heap.size + 1, 0, none⟩) := hl.out 3 rfl
      have q21 : a.eval (.tmp 21) = .bool true := hl.has 13 rfl
      have qc : ∀ x, a.eval (.const x) = x := fun _ => rfl
      refine Reg.does_is (x := .agg #[.int .i64 d.blocks, .int .i64 d.bytes, .int .i64 d.frames, .int .i64 d.fan, .int .i64 d.buf, .int .i64 d.leaf, .int .i64 d.key, .int .i64 d.val]) rfl (Reg.wanted_of rfl rfl (hl.yields 13 rfl rfl q21)) ?_
      have hblk := blk_below HBD.out hl.below
      have hc0 := (blk_cell hblk 0).trans rfl
      have hc1 := (blk_cell hblk 1).trans rfl
      have hc2 := (blk_cell hblk 2).trans rfl
      have hc3 := (blk_cell hblk 3).trans rfl
      have hc4 := (blk_cell hblk 4).trans rfl
      have hc5 := (blk_cell hblk 5).trans rfl
      have hc6 := (blk_cell hblk 6).trans rfl
      have hc7 := (blk_cell hblk 7).trans rfl
      clear hl hblk
      generalize a.eval = ρ at *
      go_simp
    · intro a w hl   -- 19: slot 27
      have q25 : a.eval (.tmp 25) = .agg #[.int .i64 c.blocks, .int .i64 c.bytes, .int .i64 c.frames, .int .i64 c.fan, .int .i64 c.buf, .int .i64 c.leaf, .int .i64 c.key, .int .i64 c.val] := hl.has 17 rfl
      have q26 : a.eval (.tmp 26) = .agg #[.int .i64 d.blocks, .int .i64 d.bytes, .int .i64 d.frames, .int .i64 d.fan, .int .i64 d.buf, .int .i64 d.leaf, .int .i64 d.key, .int .i64 d.val] := hl.has 18 rfl
      have q21 : a.eval (.tmp 21) = .bool true := hl.has 13 rfl
      have qc : ∀ x, a.eval (.const x) = x := fun _ => rfl
      refine Reg.does_is (x := .bool (eqC c d)) rfl (Reg.wanted_of rfl rfl (hl.yields 13 rfl rfl q21)) ?_
      clear hl
      generalize a.eval = ρ at *
      simp only [execOp, q25, q26]
      simp only [Sem.run_bind, guard_cfg, eql_cfg c d w, Result.andThen_ok, Sem.run_pure]
    · intro a w hl   -- 20: slot 28
      have q24 : a.eval (.tmp 24) = .bool (eqC c d) := hl.has 16 rfl
      have q27 : a.eval (.tmp 27) = .bool (eqC c d) := hl.has 19 rfl
      have q21 : a.eval (.tmp 21) = .bool true := hl.has 13 rfl
      have qc : ∀ x, a.eval (.const x) = x := fun _ => rfl
      refine Reg.does_is (x := .bool true) rfl (Reg.wanted_of rfl rfl (hl.yields 13 rfl rfl q21)) ?_
      clear hl
      generalize a.eval = ρ at *
      go_simp
    · intro a w hl   -- 21: slot 29
      have q21 : a.eval (.tmp 21) = .bool true := hl.has 13 rfl
      have q28 : a.eval (.tmp 28) = .bool true := hl.has 20 rfl
      have qc : ∀ x, a.eval (.const x) = x := fun _ => rfl
      refine Reg.does_is (x := .bool true) rfl rfl ?_
      clear hl
      generalize a.eval = ρ at *
      go_simp
    · intro a w hl   -- 22: slot 30
      have q29 : a.eval (.tmp 29) = .bool true := hl.has 21 rfl
      have qc : ∀ x, a.eval (.const x) = x := fun _ => rfl
      refine Reg.does_is (x := .bool true) rfl rfl ?_
      clear hl
      generalize a.eval = ρ at *
      go_simp
    · intro a w hl   -- 23: slot 31
      have q2 : a.eval (.tmp 2) = .pointer (some ⟨w0.heap.size, 0, none⟩) := hl.out 2 rfl
      have q30 : a.eval (.tmp 30) = .bool true := hl.has 22 rfl
      have qc : ∀ x, a.eval (.const x) = x := fun _ => rfl
      refine Reg.does_is (x := .agg #[.int .i64 c.blocks, .int .i64 c.bytes, .int .i64 c.frames, .int .i64 c.fan, .int .i64 c.buf, .int .i64 c.leaf, .int .i64 c.key, .int .i64 c.val]) rfl (Reg.wanted_of rfl rfl (hl.yields 22 rfl rfl q30)) ?_
      have hblk := blk_below HBC.out hl.below
      have hc0 := (blk_cell hblk 0).trans rfl
      have hc1 := (blk_cell hblk 1).trans rfl
      have hc2 := (blk_cell hblk 2).trans rfl
      have hc3 := (blk_cell hblk 3).trans rfl
      have hc4 := (blk_cell hblk 4).trans rfl
      have hc5 := (blk_cell hblk 5).trans rfl
      have hc6 := (blk_cell hblk 6).trans rfl
      have hc7 := (blk_cell hblk 7).trans rfl
      clear hl hblk
      generalize a.eval = ρ at *
      go_simp
    · intro a w hl   -- 24: slot 32
      have q2 : a.eval (.tmp 2) = .pointer (some ⟨w0.heap.size, 0, none⟩) := hl.out 2 rfl
      have q30 : a.eval (.tmp 30) = .bool true := hl.has 22 rfl
      have qc : ∀ x, a.eval (.const x) = x := fun _ => rfl
      refine Reg.does_is (x := .agg #[.int .i64 c.blocks, .int .i64 c.bytes, .int .i64 c.frames, .int .i64 c.fan, .int .i64 c.buf, .int .i64 c.leaf, .int .i64 c.key, .int .i64 c.val]) rfl (Reg.wanted_of rfl rfl (hl.yields 22 rfl rfl q30)) ?_
      have hblk := blk_below HBC.out hl.below
      have hc0 := (blk_cell hblk 0).trans rfl
      have hc1 := (blk_cell hblk 1).trans rfl
      have hc2 := (blk_cell hblk 2).trans rfl
      have hc3 := (blk_cell hblk 3).trans rfl
      have hc4 := (blk_cell hblk 4).trans rfl
      have hc5 := (blk_cell hblk 5).trans rfl
      have hc6 := (blk_cell hblk 6).trans rfl
      have hc7 := (blk_cell hblk 7).trans rfl
      clear hl hblk
      generalize a.eval = ρ at *
      go_simp
    · intro a w hl   -- 25: slot 33
      have q31 : a.eval (.tmp 31) = .agg #[.int .i64 c.blocks, .int .i64 c.bytes, .int .i64 c.frames, .int .i64 c.fan, .int .i64 c.buf, .int .i64 c.leaf, .int .i64 c.key, .int .i64 c.val] := hl.has 23 rfl
      have q32 : a.eval (.tmp 32) = .agg #[.int .i64 c.blocks, .int .i64 c.bytes, .int .i64 c.frames, .int .i64 c.fan, .int .i64 c.buf, .int .i64 c.leaf, .int .i64 c.key, .int .i64 c.val] := hl.has 24 rfl
      have q30 : a.eval (.tmp 30) = .bool true := hl.has 22 rfl
      have qc : ∀ x, a.eval (.const x) = x := fun _ => rfl
      refine Reg.does_call_is (x := .bool true) #[.agg #[.int .i64 c.blocks, .int .i64 c.bytes, .int .i64 c.frames, .int .i64 c.fan, .int .i64 c.buf, .int .i64 c.leaf, .int .i64 c.key, .int .i64 c.val], .agg #[.int .i64 c.blocks, .int .i64 c.bytes, .int .i64 c.frames, .int .i64 c.fan, .int .i64 c.buf, .int .i64 c.leaf, .int .i64 c.key, .int .i64 c.val]] rfl (Reg.wanted_of rfl rfl (hl.yields 22 rfl rfl q30)) Try.func9 (by kernel_rfl) rfl rfl (by simp [qc, q31, q32]) ?_
      have h := same_calls c c w
      rw [eqC_self] at h
      exact h
    · intro a w hl   -- 26: slot 34
      have q30 : a.eval (.tmp 30) = .bool true := hl.has 22 rfl
      have q33 : a.eval (.tmp 33) = .bool true := hl.has 25 rfl
      have qc : ∀ x, a.eval (.const x) = x := fun _ => rfl
      refine Reg.does_is (x := .bool true) rfl rfl ?_
      clear hl
      generalize a.eval = ρ at *
      go_simp
    · intro a w hl   -- 27: slot 35
      have q34 : a.eval (.tmp 34) = .bool true := hl.has 26 rfl
      have qc : ∀ x, a.eval (.const x) = x := fun _ => rfl
      refine Reg.does_is (x := .bool true) rfl rfl ?_
      clear hl
      generalize a.eval = ρ at *
      go_simp
    · intro a w hl   -- 28: slot 36
      have q35 : a.eval (.tmp 35) = .bool true := hl.has 27 rfl
      have qc : ∀ x, a.eval (.const x) = x := fun _ => rfl
      refine Reg.does_call_is (x := .bool true) #[] rfl (Reg.wanted_of rfl rfl (hl.yields 27 rfl rfl q35)) Try.func7 (by kernel_rfl) rfl rfl (by simp [qc]) ?_
      exact awake_calls w
    · intro a w hl   -- 29: slot 37
      have q35 : a.eval (.tmp 35) = .bool true := hl.has 27 rfl
      have q36 : a.eval (.tmp 36) = .bool true := hl.has 28 rfl
      have qc : ∀ x, a.eval (.const x) = x := fun _ => rfl
      refine Reg.does_is (x := .bool true) rfl rfl ?_
      clear hl
      generalize a.eval = ρ at *
      go_simp
    · intro a w hl   -- 30: slot 4
      have q37 : a.eval (.tmp 37) = .bool true := hl.has 29 rfl
      have qc : ∀ x, a.eval (.const x) = x := fun _ => rfl
      refine Reg.does_is (x := .bool true) rfl rfl ?_
      clear hl
      generalize a.eval = ρ at *
      go_simp
    · rintro v w hb ⟨e8, e9, e10, e11, e12, e13, e14, e15, e16, e17, e18, e19, e20, e21, e22, e23, e24, e25, e26, e27, e28, e29, e30, e31, e32, e33, e34, e35, e36, e37, e4, _⟩
      replace e8 : v 0 = .int .i64 2 := e8
      replace e9 : v 1 = .bool false := e9
      replace e10 : v 2 = .agg #[.int .i64 c.blocks, .int .i64 c.bytes, .int .i64 c.frames, .int .i64 c.fan, .int .i64 c.buf, .int .i64 c.leaf, .int .i64 c.key, .int .i64 c.val] := e10
      replace e11 : v 3 = .bool false := e11
      replace e12 : v 4 = .bool true := e12
      replace e13 : v 5 = .bool true := e13
      replace e14 : v 6 = .int .i64 2 := e14
      replace e15 : v 7 = .bool false := e15
      replace e16 : v 8 = .bool false := e16
      replace e17 : v 9 = .int .i64 2 := e17
      replace e18 : v 10 = .bool true := e18
      replace e19 : v 11 = .bool true := e19
      replace e20 : v 12 = .bool true := e20
      replace e21 : v 13 = .bool true := e21
      replace e22 : v 14 = .agg #[.int .i64 c.blocks, .int .i64 c.bytes, .int .i64 c.frames, .int .i64 c.fan, .int .i64 c.buf, .int .i64 c.leaf, .int .i64 c.key, .int .i64 c.val] := e22
      replace e23 : v 15 = .agg #[.int .i64 d.blocks, .int .i64 d.bytes, .int .i64 d.frames, .int .i64 d.fan, .int .i64 d.buf, .int .i64 d.leaf, .int .i64 d.key, .int .i64 d.val] := e23
      replace e24 : v 16 = .bool (eqC c d) := e24
      replace e25 : v 17 = .agg #[.int .i64 c.blocks, .int .i64 c.bytes, .int .i64 c.frames, .int .i64 c.fan, .int .i64 c.buf, .int .i64 c.leaf, .int .i64 c.key, .int .i64 c.val] := e25
      replace e26 : v 18 = .agg #[.int .i64 d.blocks, .int .i64 d.bytes, .int .i64 d.frames, .int .i64 d.fan, .int .i64 d.buf, .int .i64 d.leaf, .int .i64 d.key, .int .i64 d.val] := e26
      replace e27 : v 19 = .bool (eqC c d) := e27
      replace e28 : v 20 = .bool true := e28
      replace e29 : v 21 = .bool true := e29
      replace e30 : v 22 = .bool true := e30
      replace e31 : v 23 = .agg #[.int .i64 c.blocks, .int .i64 c.bytes, .int .i64 c.frames, .int .i64 c.fan, .int .i64 c.buf, .int .i64 c.leaf, .int .i64 c.key, .int .i64 c.val] := e31
      replace e32 : v 24 = .agg #[.int .i64 c.blocks, .int .i64 c.bytes, .int .i64 c.frames, .int .i64 c.fan, .int .i64 c.buf, .int .i64 c.leaf, .int .i64 c.key, .int .i64 c.val] := e32
      replace e33 : v 25 = .bool true := e33
      replace e34 : v 26 = .bool true := e34
      replace e35 : v 27 = .bool true := e35
      replace e36 : v 28 = .bool true := e36
      replace e37 : v 29 = .bool true := e37
      replace e4 : v 30 = .bool true := e4
      simp only [Reg.putL, Act.put, List.setIfInBounds_toArray, List.set_cons_zero, List.set_cons_succ, e8, e9, e10, e11, e12, e13, e14, e15, e16, e17, e18, e19, e20, e21, e22, e23, e24, e25, e26, e27, e28, e29, e30, e31, e32, e33, e34, e35, e36, e37, e4]
      clear e8 e9 e10 e11 e12 e13 e14 e15 e16 e17 e18 e19 e20 e21 e22 e23 e24 e25 e26 e27 e28 e29 e30 e31 e32 e33 e34 e35 e36 e37 e4
      go_wp2
      go_ret
      exact ⟨rfl, below_step HB.out hb⟩
end Go.Proofs.Ytalbdmiakbbpfaa.Q
