/- Which settings are right: what 'Check' comes to, walked by hand. -/
import Derived.Test.YtlnndkhnabooeaaConfFns
import Derived.Test.YtlnndkhnabooeaaReg
namespace Go.Proofs.Ytlnndkhnabooeaa.Q
open Go.RowKit Go.Proofs.YtlnndkhnabooeaaW.PrintWords Go.Proofs.YtlnndkhnabooeaaW.PrintLast Go.Proofs.YtlnndkhnabooeaaW.PrintMore
open Go.Proofs.Ytlnndkhnabooeaa
set_option linter.unusedVariables false
set_option linter.unusedSimpArgs false

theorem sized_calls (c : Cfg) (w : World) : Calls Try.prog 33 #[c.v] w fun e w' => e = .returned (.bool (decide c.sized)) ∧ Below w.heap.size w w' :=
  conf_sized.calls 5 _ _ _ _ _ _ _ _ _ w (sized_is c 5 (by omega))
theorem inner_calls (c : Cfg) (w : World) : Calls Try.prog 38 #[c.v] w fun e w' => e = .returned (.int .i64 (if c.sized then c.inner else 0)) ∧ Below w.heap.size w w' :=
  conf_Inner.calls 5 _ _ _ _ _ _ _ _ _ w (inner_is c 5 (by omega))
theorem outer_calls (c : Cfg) (w : World) : Calls Try.prog 39 #[c.v] w fun e w' => e = .returned (.int .i64 (if c.sized then c.outer else 0)) ∧ Below w.heap.size w w' :=
  conf_Outer.calls 5 _ _ _ _ _ _ _ _ _ w (outer_is c 5 (by omega))
theorem least_calls (c : Cfg) (w : World) : Calls Try.prog 34 #[c.v] w fun e w' => e = .returned c.least.v ∧ Below w.heap.size w w' :=
  conf_Least.calls 5 _ _ _ _ _ _ _ _ _ _ _ _ _ _ _ _ w (least_is c 5 (by omega))
theorem field1 (x0 x1 x2 x3 x4 x5 x6 x7 : Int) (W : World) : (Instr.field 23 (.agg #[.int .i64 x0, .int .i64 x1, .int .i64 x2, .int .i64 x3, .int .i64 x4, .int .i64 x5, .int .i64 x6, .int .i64 x7]) 1).run Try.prog W = .ok (.int .i64 x1) W := by kernel_rfl

/-- Are the settings, but for their bytes, right? -/
def Cfg.ok (c : Cfg) : Prop := c.sized ∧ 5 ≤ c.blocks ∧ c.blocks ≤ 65536 ∧ 8 ≤ c.frames ∧ c.frames ≤ 64
instance (c : Cfg) : Decidable c.ok := by unfold Cfg.ok; infer_instance
theorem Cfg.right_iff (c : Cfg) : c.right ↔ c.ok ∧ ¬ 65536 < c.bytes ∧ ¬ c.bytes < c.least.bytes := by
  unfold Cfg.right Cfg.ok
  constructor
  · rintro ⟨h, h1, h2, h3, h4, h5, h6, h7, h8⟩
    refine ⟨⟨h, h1, h2, h3, h4⟩, by omega, ?_⟩
    simp only [Cfg.least, if_pos h]
    unfold mx
    split <;> split <;> omega
  · rintro ⟨⟨h, h1, h2, h3, h4⟩, h5, h6⟩
    simp only [Cfg.least, if_pos h] at h6
    unfold mx at h6
    refine ⟨h, h1, h2, h3, h4, by omega, ?_, ?_, ?_⟩ <;> (split at h6 <;> split at h6 <;> omega)

set_option maxHeartbeats 2000000 in
set_option maxRecDepth 100000 in
theorem check_no (c : Cfg) (w0 : World) (hno : ¬ c.ok) : Calls Try.prog 18 #[c.v] w0 fun e w' => e = .returned (.int .i64 2) ∧ Below w0.heap.size w0 w' := by
  have hu := Try.underlying23
  have hcs : c.sized = False ∨ (c.sized = True ∧ decide (5 ≤ c.blocks) = false) ∨ (c.sized = True ∧ decide (5 ≤ c.blocks) = true ∧ decide (c.blocks ≤ 65536) = false) ∨ (c.sized = True ∧ decide (5 ≤ c.blocks) = true ∧ decide (c.blocks ≤ 65536) = true ∧ decide (8 ≤ c.frames) = false) ∨
      (c.sized = True ∧ decide (5 ≤ c.blocks) = true ∧ decide (c.blocks ≤ 65536) = true ∧ decide (8 ≤ c.frames) = true ∧ decide (c.frames ≤ 64) = false) := by
    unfold Cfg.ok at hno
    by_cases h : c.sized
    · right
      simp only [h, eq_self_iff_true, true_and, decide_eq_true_eq, decide_eq_false_iff_not] at hno ⊢
      omega
    · left; exact eq_false h
  have hs := sized_calls c
  rcases hcs with h | ⟨h, h1⟩ | ⟨h, h1, h2⟩ | ⟨h, h1, h2, h3⟩ | ⟨h, h1, h2, h3, h4⟩
  all_goals rw [show decide c.sized = _ from by simp only [h]; rfl] at hs
  all_goals have HS := Aside0.mk hs
  all_goals clear hs h hno
  all_goals go_enter Try.func18, Try.ntmps18
  all_goals go_wp2_with fail
  all_goals refine (HS.out _).mono ?_
  all_goals rintro e w1 ⟨rfl, hb1⟩
  all_goals have hbk : w1.heap[w0.heap.size]? = some (.cells #[.int .i64 c.blocks, .int .i64 c.bytes, .int .i64 c.frames, .int .i64 c.fan, .int .i64 c.buf, .int .i64 c.leaf, .int .i64 c.key, .int .i64 c.val] 23 (0, 0)) := blk_below (blk_new w0 _) hb1
  all_goals have HB := Aside0.mk (below_step (below_alloc (Below.refl _ _) _) hb1)
  all_goals have HBK := Aside0.mk hbk
  all_goals have hc0 := (blk_cell hbk 0).trans rfl
  all_goals have hc2 := (blk_cell hbk 2).trans rfl
  all_goals clear hb1 hbk
  all_goals go_wp2_with fail
  all_goals (
  refine Reg.region_list [Reg.Is (.bool false), Reg.Is (.bool true), Reg.Is (.bool true), Reg.Any, Reg.Any, Reg.Any, Reg.Is (.bool true), Reg.Is (.bool true), Reg.Any, Reg.Any, Reg.Any, Reg.Any, Reg.Any, Reg.Any, Reg.Is (.bool true)]
      [some 26, some 27, some 28, some 29, some 30, some 31, some 32, some 33, some 34, some 35, some 36, some 37, some 38, some 39, some 40] (by kernel_rfl) (by rfl) (by rfl) (by rfl) rfl ⟨Reg.mono_is _, Reg.mono_is _, Reg.mono_is _, Reg.mono_any, Reg.mono_any, Reg.mono_any, Reg.mono_is _, Reg.mono_is _, Reg.mono_any, Reg.mono_any, Reg.mono_any, Reg.mono_any, Reg.mono_any, Reg.mono_any, Reg.mono_is _, trivial⟩ (Reg.noneOk_of (by rfl)) ⟨?_, ?_, ?_, ?_, ?_, ?_, ?_, ?_, ?_, ?_, ?_, ?_, ?_, ?_, ?_, trivial⟩ ?_
  · intro a w hl   -- 0: slot 26
    have q3 : a.eval (.tmp 3) = .bool false := hl.out 3 rfl
    have qc : ∀ x, a.eval (.const x) = x := fun _ => rfl
    refine Reg.does_is (x := .bool false) rfl rfl ?_
    clear hl
    generalize a.eval = ρ at *
    go_simp
  · intro a w hl   -- 1: slot 27
    have q26 : a.eval (.tmp 26) = .bool false := hl.has 0 rfl
    have qc : ∀ x, a.eval (.const x) = x := fun _ => rfl
    refine Reg.does_is (x := .bool true) rfl rfl ?_
    clear hl
    generalize a.eval = ρ at *
    go_simp
  · intro a w hl   -- 2: slot 28
    have q27 : a.eval (.tmp 27) = .bool true := hl.has 1 rfl
    have qc : ∀ x, a.eval (.const x) = x := fun _ => rfl
    refine Reg.does_is (x := .bool true) rfl rfl ?_
    clear hl
    generalize a.eval = ρ at *
    go_simp
  · intro a w hl   -- 3: slot 29
    have q28 : a.eval (.tmp 28) = .bool true := hl.has 2 rfl
    exact Reg.does_any rfl (Reg.wanted_not rfl rfl (hl.yields 2 rfl rfl q28))
  · intro a w hl   -- 4: slot 30
    have q28 : a.eval (.tmp 28) = .bool true := hl.has 2 rfl
    exact Reg.does_any rfl (Reg.wanted_not rfl rfl (hl.yields 2 rfl rfl q28))
  · intro a w hl   -- 5: slot 31
    have q28 : a.eval (.tmp 28) = .bool true := hl.has 2 rfl
    exact Reg.does_any rfl (Reg.wanted_not rfl rfl (hl.yields 2 rfl rfl q28))
  · intro a w hl   -- 6: slot 32
    have q28 : a.eval (.tmp 28) = .bool true := hl.has 2 rfl
    have qc : ∀ x, a.eval (.const x) = x := fun _ => rfl
    refine Reg.does_is (x := .bool true) rfl rfl ?_
    clear hl
    generalize a.eval = ρ at *
    go_simp
  · intro a w hl   -- 7: slot 33
    have q32 : a.eval (.tmp 32) = .bool true := hl.has 6 rfl
    have qc : ∀ x, a.eval (.const x) = x := fun _ => rfl
    refine Reg.does_is (x := .bool true) rfl rfl ?_
    clear hl
    generalize a.eval = ρ at *
    go_simp
  · intro a w hl   -- 8: slot 34
    have q33 : a.eval (.tmp 33) = .bool true := hl.has 7 rfl
    exact Reg.does_any rfl (Reg.wanted_not rfl rfl (hl.yields 7 rfl rfl q33))
  · intro a w hl   -- 9: slot 35
    have q33 : a.eval (.tmp 33) = .bool true := hl.has 7 rfl
    exact Reg.does_any rfl (Reg.wanted_not rfl rfl (hl.yields 7 rfl rfl q33))
  · intro a w hl   -- 10: slot 36
    have q33 : a.eval (.tmp 33) = .bool true := hl.has 7 rfl
    exact Reg.does_any rfl (Reg.wanted_not rfl rfl (hl.yields 7 rfl rfl q33))
  · intro a w hl   -- 11: slot 37
    have q33 : a.eval (.tmp 33) = .bool true := hl.has 7 rfl
    exact Reg.does_any rfl (Reg.wanted_not rfl rfl (hl.yields 7 rfl rfl q33))
  · intro a w hl   -- 12: slot 38
    have q33 : a.eval (.tmp 33) = .bool true := hl.has 7 rfl
    exact Reg.does_any rfl (Reg.wanted_not rfl rfl (hl.yields 7 rfl rfl q33))
  · intro a w hl   -- 13: slot 39
    have q33 : a.eval (.tmp 33) = .bool true := hl.has 7 rfl
    exact Reg.does_any rfl (Reg.wanted_not rfl rfl (hl.yields 7 rfl rfl q33))
  · intro a w hl   -- 14: slot 40
    have q33 : a.eval (.tmp 33) = .bool true := hl.has 7 rfl
    have qc : ∀ x, a.eval (.const x) = x := fun _ => rfl
    refine Reg.does_is (x := .bool true) rfl rfl ?_
    clear hl
    generalize a.eval = ρ at *
    go_simp
  · rintro v w hb ⟨e26, e27, e28, _, _, _, e32, e33, _, _, _, _, _, _, e40, _⟩
    replace e26 : v 0 = .bool false := e26
    replace e27 : v 1 = .bool true := e27
    replace e28 : v 2 = .bool true := e28
    replace e32 : v 6 = .bool true := e32
    replace e33 : v 7 = .bool true := e33
    replace e40 : v 14 = .bool true := e40
    simp only [Reg.putL, Act.put, List.setIfInBounds_toArray, List.set_cons_zero, List.set_cons_succ, e26, e27, e28, e32, e33, e40]
    clear e26 e27 e28 e32 e33 e40
    go_wp2
    go_ret
    exact ⟨rfl, below_step HB.out hb⟩
  )
set_option maxHeartbeats 2000000 in
set_option maxRecDepth 100000 in
theorem check_big (c : Cfg) (w0 : World) (hok : c.ok) (hbig : 65536 < c.bytes) : Calls Try.prog 18 #[c.v] w0 fun e w' => e = .returned (.int .i64 2) ∧ Below w0.heap.size w0 w' := by
  have hu := Try.underlying23
  have h' := hok
  unfold Cfg.ok at h'
  obtain ⟨h, h1, h2, h3, h4⟩ := h'
  have hs := sized_calls c
  rw [show decide c.sized = true from decide_eq_true h] at hs
  have HS := Aside0.mk hs
  clear hs h hok
  go_enter Try.func18, Try.ntmps18
  go_wp2_with fail
  refine (HS.out _).mono ?_
  rintro e w1 ⟨rfl, hb1⟩
  have hbk : w1.heap[w0.heap.size]? = some (.cells #[.int .i64 c.blocks, .int .i64 c.bytes, .int .i64 c.frames, .int .i64 c.fan, .int .i64 c.buf, .int .i64 c.leaf, .int .i64 c.key, .int .i64 c.val] 23 (0, 0)) := blk_below (blk_new w0 _) hb1
  have HB := Aside0.mk (below_step (below_alloc (Below.refl _ _) _) hb1)
  have HBK := Aside0.mk hbk
  have hc0 := (blk_cell hbk 0).trans rfl
  have hc2 := (blk_cell hbk 2).trans rfl
  clear hb1 hbk
  go_wp2_with fail
  refine Reg.region_list [Reg.Is (.bool true), Reg.Is (.bool false), Reg.Is (.bool false), Reg.Is (.pointer (some ⟨w0.heap.size, 1, none⟩)), Reg.Is (.int .i64 c.bytes), Reg.Is (.bool true), Reg.Is (.bool true), Reg.Is (.bool true), Reg.Any, Reg.Any, Reg.Any, Reg.Any, Reg.Any, Reg.Any, Reg.Is (.bool true)]
      [some 26, some 27, some 28, some 29, some 30, some 31, some 32, some 33, some 34, some 35, some 36, some 37, some 38, some 39, some 40] (by kernel_rfl) (by rfl) (by rfl) (by rfl) rfl ⟨Reg.mono_is _, Reg.mono_is _, Reg.mono_is _, Reg.mono_is _, Reg.mono_is _, Reg.mono_is _, Reg.mono_is _, Reg.mono_is _, Reg.mono_any, Reg.mono_any, Reg.mono_any, Reg.mono_any, Reg.mono_any, Reg.mono_any, Reg.mono_is _, trivial⟩ (Reg.noneOk_of (by rfl)) ⟨?_, ?_, ?_, ?_, ?_, ?_, ?_, ?_, ?_, ?_, ?_, ?_, ?_, ?_, ?_, trivial⟩ ?_
  · intro a w hl   -- 0: slot 26
    have q3 : a.eval (.tmp 3) = .bool true := hl.out 3 rfl
    have qc : ∀ x, a.eval (.const x) = x := fun _ => rfl
    refine Reg.does_is (x := .bool true) rfl rfl ?_
    clear hl
    generalize a.eval = ρ at *
    go_simp
  · intro a w hl   -- 1: slot 27
    have q26 : a.eval (.tmp 26) = .bool true := hl.has 0 rfl
    have qc : ∀ x, a.eval (.const x) = x := fun _ => rfl
    refine Reg.does_is (x := .bool false) rfl rfl ?_
    clear hl
    generalize a.eval = ρ at *
    go_simp
  · intro a w hl   -- 2: slot 28
    have q27 : a.eval (.tmp 27) = .bool false := hl.has 1 rfl
    have qc : ∀ x, a.eval (.const x) = x := fun _ => rfl
    refine Reg.does_is (x := .bool false) rfl rfl ?_
    clear hl
    generalize a.eval = ρ at *
    go_simp
  · intro a w hl   -- 3: slot 29
    have q1 : a.eval (.tmp 1) = .pointer (some ⟨w0.heap.size, 0, none⟩) := hl.out 1 rfl
    have q28 : a.eval (.tmp 28) = .bool false := hl.has 2 rfl
    have qc : ∀ x, a.eval (.const x) = x := fun _ => rfl
    refine Reg.does_is (x := .pointer (some ⟨w0.heap.size, 1, none⟩)) rfl (Reg.wanted_of rfl rfl (hl.yields 2 rfl rfl q28)) ?_
    clear hl
    generalize a.eval = ρ at *
    go_simp
  · intro a w hl   -- 4: slot 30
    have q29 : a.eval (.tmp 29) = .pointer (some ⟨w0.heap.size, 1, none⟩) := hl.has 3 rfl
    have q28 : a.eval (.tmp 28) = .bool false := hl.has 2 rfl
    have qc : ∀ x, a.eval (.const x) = x := fun _ => rfl
    refine Reg.does_is (x := .int .i64 c.bytes) rfl (Reg.wanted_of rfl rfl (hl.yields 2 rfl rfl q28)) ?_
    have hblk := blk_below HBK.out hl.below
    have hc0 := (blk_cell hblk 0).trans rfl
    have hc1 := (blk_cell hblk 1).trans rfl
    have hc2 := (blk_cell hblk 2).trans rfl
    have hc3 := (blk_cell hblk 3).trans rfl
    have hc4 := (blk_cell hblk 4).trans rfl
    have hc5 := (blk_cell hblk 5).trans rfl
    have hc6 := (blk_cell hblk 6).trans rfl
    have hc7 := (blk_cell hblk 7).trans rfl
    clear hl hblk
    generalize a.eval = ρ at *
    go_simp
  · intro a w hl   -- 5: slot 31
    have q30 : a.eval (.tmp 30) = .int .i64 c.bytes := hl.has 4 rfl
    have q28 : a.eval (.tmp 28) = .bool false := hl.has 2 rfl
    have qc : ∀ x, a.eval (.const x) = x := fun _ => rfl
    refine Reg.does_is (x := .bool true) rfl (Reg.wanted_of rfl rfl (hl.yields 2 rfl rfl q28)) ?_
    clear hl
    generalize a.eval = ρ at *
    go_simp
  · intro a w hl   -- 6: slot 32
    have q28 : a.eval (.tmp 28) = .bool false := hl.has 2 rfl
    have q31 : a.eval (.tmp 31) = .bool true := hl.has 5 rfl
    have qc : ∀ x, a.eval (.const x) = x := fun _ => rfl
    refine Reg.does_is (x := .bool true) rfl rfl ?_
    clear hl
    generalize a.eval = ρ at *
    go_simp
  · intro a w hl   -- 7: slot 33
    have q32 : a.eval (.tmp 32) = .bool true := hl.has 6 rfl
    have qc : ∀ x, a.eval (.const x) = x := fun _ => rfl
    refine Reg.does_is (x := .bool true) rfl rfl ?_
    clear hl
    generalize a.eval = ρ at *
    go_simp
  · intro a w hl   -- 8: slot 34
    have q33 : a.eval (.tmp 33) = .bool true := hl.has 7 rfl
    exact Reg.does_any rfl (Reg.wanted_not rfl rfl (hl.yields 7 rfl rfl q33))
  · intro a w hl   -- 9: slot 35
    have q33 : a.eval (.tmp 33) = .bool true := hl.has 7 rfl
    exact Reg.does_any rfl (Reg.wanted_not rfl rfl (hl.yields 7 rfl rfl q33))
  · intro a w hl   -- 10: slot 36
    have q33 : a.eval (.tmp 33) = .bool true := hl.has 7 rfl
    exact Reg.does_any rfl (Reg.wanted_not rfl rfl (hl.yields 7 rfl rfl q33))
  · intro a w hl   -- 11: slot 37
    have q33 : a.eval (.tmp 33) = .bool true := hl.has 7 rfl
    exact Reg.does_any rfl (Reg.wanted_not rfl rfl (hl.yields 7 rfl rfl q33))
  · intro a w hl   -- 12: slot 38
    have q33 : a.eval (.tmp 33) = .bool true := hl.has 7 rfl
    exact Reg.does_any rfl (Reg.wanted_not rfl rfl (hl.yields 7 rfl rfl q33))
  · intro a w hl   -- 13: slot 39
    have q33 : a.eval (.tmp 33) = .bool true := hl.has 7 rfl
    exact Reg.does_any rfl (Reg.wanted_not rfl rfl (hl.yields 7 rfl rfl q33))
  · intro a w hl   -- 14: slot 40
    have q33 : a.eval (.tmp 33) = .bool true := hl.has 7 rfl
    have qc : ∀ x, a.eval (.const x) = x := fun _ => rfl
    refine Reg.does_is (x := .bool true) rfl rfl ?_
    clear hl
    generalize a.eval = ρ at *
    go_simp
  · rintro v w hb ⟨e26, e27, e28, e29, e30, e31, e32, e33, _, _, _, _, _, _, e40, _⟩
    replace e26 : v 0 = .bool true := e26
    replace e27 : v 1 = .bool false := e27
    replace e28 : v 2 = .bool false := e28
    replace e29 : v 3 = .pointer (some ⟨w0.heap.size, 1, none⟩) := e29
    replace e30 : v 4 = .int .i64 c.bytes := e30
    replace e31 : v 5 = .bool true := e31
    replace e32 : v 6 = .bool true := e32
    replace e33 : v 7 = .bool true := e33
    replace e40 : v 14 = .bool true := e40
    simp only [Reg.putL, Act.put, List.setIfInBounds_toArray, List.set_cons_zero, List.set_cons_succ, e26, e27, e28, e29, e30, e31, e32, e33, e40]
    clear e26 e27 e28 e29 e30 e31 e32 e33 e40
    go_wp2
    go_ret
    exact ⟨rfl, below_step HB.out hb⟩
set_option maxHeartbeats 2000000 in
set_option maxRecDepth 100000 in
theorem check_yes (c : Cfg) (w0 : World) (hok : c.ok) (hbig : c.bytes ≤ 65536) : Calls Try.prog 18 #[c.v] w0 fun e w' => e = .returned (.int .i64 (if c.bytes < c.least.bytes then 2 else 0)) ∧ Below w0.heap.size w0 w' := by
  obtain ⟨bx, hbx⟩ : ∃ bx, decide (c.bytes < c.least.bytes) = bx := ⟨_, rfl⟩
  obtain ⟨r, hr⟩ : ∃ r : Int, (if c.bytes < c.least.bytes then 2 else 0) = r := ⟨_, rfl⟩
  have HR := Aside0.mk (show r = if bx = true then 2 else 0 by rw [← hr, ← hbx]; simp)
  rw [hr]
  have HBX := Aside0.mk hbx
  clear hbx hr
  have hu := Try.underlying23
  have h' := hok
  unfold Cfg.ok at h'
  obtain ⟨h, h1, h2, h3, h4⟩ := h'
  have hs := sized_calls c
  rw [show decide c.sized = true from decide_eq_true h] at hs
  have HS := Aside0.mk hs
  clear hs h hok
  go_enter Try.func18, Try.ntmps18
  go_wp2_with fail
  refine (HS.out _).mono ?_
  rintro e w1 ⟨rfl, hb1⟩
  have hbk : w1.heap[w0.heap.size]? = some (.cells #[.int .i64 c.blocks, .int .i64 c.bytes, .int .i64 c.frames, .int .i64 c.fan, .int .i64 c.buf, .int .i64 c.leaf, .int .i64 c.key, .int .i64 c.val] 23 (0, 0)) := blk_below (blk_new w0 _) hb1
  have HB := Aside0.mk (below_step (below_alloc (Below.refl _ _) _) hb1)
  have HBK := Aside0.mk hbk
  have hc0 := (blk_cell hbk 0).trans rfl
  have hc2 := (blk_cell hbk 2).trans rfl
  clear hb1 hbk
  go_wp2_with fail
  refine Reg.region_list [Reg.Is (.bool true), Reg.Is (.bool false), Reg.Is (.bool false), Reg.Is (.pointer (some ⟨w0.heap.size, 1, none⟩)), Reg.Is (.int .i64 c.bytes), Reg.Is (.bool false), Reg.Is (.bool false), Reg.Is (.bool false), Reg.Is (.pointer (some ⟨w0.heap.size, 1, none⟩)), Reg.Is (.int .i64 c.bytes), Reg.Is (.agg #[.int .i64 c.blocks, .int .i64 c.bytes, .int .i64 c.frames, .int .i64 c.fan, .int .i64 c.buf, .int .i64 c.leaf, .int .i64 c.key, .int .i64 c.val]), Reg.Is (.agg #[.int .i64 c.least.blocks, .int .i64 c.least.bytes, .int .i64 c.least.frames, .int .i64 c.least.fan, .int .i64 c.least.buf, .int .i64 c.least.leaf, .int .i64 c.least.key, .int .i64 c.least.val]), Reg.Is (.int .i64 c.least.bytes), Reg.Is (.bool bx), Reg.Is (.bool bx)]
      [some 26, some 27, some 28, some 29, some 30, some 31, some 32, some 33, some 34, some 35, some 36, some 37, some 38, some 39, some 40] (by kernel_rfl) (by rfl) (by rfl) (by rfl) rfl ⟨Reg.mono_is _, Reg.mono_is _, Reg.mono_is _, Reg.mono_is _, Reg.mono_is _, Reg.mono_is _, Reg.mono_is _, Reg.mono_is _, Reg.mono_is _, Reg.mono_is _, Reg.mono_is _, Reg.mono_is _, Reg.mono_is _, Reg.mono_is _, Reg.mono_is _, trivial⟩ (Reg.noneOk_of (by rfl)) ⟨?_, ?_, ?_, ?_, ?_, ?_, ?_, ?_, ?_, ?_, ?_, ?_, ?_, ?_, ?_, trivial⟩ ?_
  · intro a w hl   -- 0: slot 26
    have q3 : a.eval (.tmp 3) = .bool true := hl.out 3 rfl
    have qc : ∀ x, a.eval (.const x) = x := fun _ => rfl
    refine Reg.does_is (x := .bool true) rfl rfl ?_
    clear hl
    generalize a.eval = ρ at *
    go_simp
  · intro a w hl   -- 1: slot 27
    have q26 : a.eval (.tmp 26) = .bool true := hl.has 0 rfl
    have qc : ∀ x, a.eval (.const x) = x := fun _ => rfl
    refine Reg.does_is (x := .bool false) rfl rfl ?_
    clear hl
    generalize a.eval = ρ at *
    go_simp
  · intro a w hl   -- 2: slot 28
    have q27 : a.eval (.tmp 27) = .bool false := hl.has 1 rfl
    have qc : ∀ x, a.eval (.const x) = x := fun _ => rfl
    refine Reg.does_is (x := .bool false) rfl rfl ?_
    clear hl
    generalize a.eval = ρ at *
    go_simp
  · intro a w hl   -- 3: slot 29
    have q1 : a.eval (.tmp 1) = .pointer (some ⟨w0.heap.size, 0, none⟩) := hl.out 1 rfl
    have q28 : a.eval (.tmp 28) = .bool false := hl.has 2 rfl
    have qc : ∀ x, a.eval (.const x) = x := fun _ => rfl
    refine Reg.does_is (x := .pointer (some ⟨w0.heap.size, 1, none⟩)) rfl (Reg.wanted_of rfl rfl (hl.yields 2 rfl rfl q28)) ?_
    clear hl
    generalize a.eval = ρ at *
    go_simp
  · intro a w hl   -- 4: slot 30
    have q29 : a.eval (.tmp 29) = .pointer (some ⟨w0.heap.size, 1, none⟩) := hl.has 3 rfl
    have q28 : a.eval (.tmp 28) = .bool false := hl.has 2 rfl
    have qc : ∀ x, a.eval (.const x) = x := fun _ => rfl
    refine Reg.does_is (x := .int .i64 c.bytes) rfl (Reg.wanted_of rfl rfl (hl.yields 2 rfl rfl q28)) ?_
    have hblk := blk_below HBK.out hl.below
    have hc0 := (blk_cell hblk 0).trans rfl
    have hc1 := (blk_cell hblk 1).trans rfl
    have hc2 := (blk_cell hblk 2).trans rfl
    have hc3 := (blk_cell hblk 3).trans rfl
    have hc4 := (blk_cell hblk 4).trans rfl
    have hc5 := (blk_cell hblk 5).trans rfl
    have hc6 := (blk_cell hblk 6).trans rfl
    have hc7 := (blk_cell hblk 7).trans rfl
    clear hl hblk
    generalize a.eval = ρ at *
    go_simp
  · intro a w hl   -- 5: slot 31
    have q30 : a.eval (.tmp 30) = .int .i64 c.bytes := hl.has 4 rfl
    have q28 : a.eval (.tmp 28) = .bool false := hl.has 2 rfl
    have qc : ∀ x, a.eval (.const x) = x := fun _ => rfl
    refine Reg.does_is (x := .bool false) rfl (Reg.wanted_of rfl rfl (hl.yields 2 rfl rfl q28)) ?_
    clear hl
    generalize a.eval = ρ at *
    go_simp
  · intro a w hl   -- 6: slot 32
    have q28 : a.eval (.tmp 28) = .bool false := hl.has 2 rfl
    have q31 : a.eval (.tmp 31) = .bool false := hl.has 5 rfl
    have qc : ∀ x, a.eval (.const x) = x := fun _ => rfl
    refine Reg.does_is (x := .bool false) rfl rfl ?_
    clear hl
    generalize a.eval = ρ at *
    go_simp
  · intro a w hl   -- 7: slot 33
    have q32 : a.eval (.tmp 32) = .bool false := hl.has 6 rfl
    have qc : ∀ x, a.eval (.const x) = x := fun _ => rfl
    refine Reg.does_is (x := .bool false) rfl rfl ?_
    clear hl
    generalize a.eval = ρ at *
    go_simp
  · intro a w hl   -- 8: slot 34
    have q1 : a.eval (.tmp 1) = .pointer (some ⟨w0.heap.size, 0, none⟩) := hl.out 1 rfl
    have q33 : a.eval (.tmp 33) = .bool false := hl.has 7 rfl
    have qc : ∀ x, a.eval (.const x) = x := fun _ => rfl
    refine Reg.does_is (x := .pointer (some ⟨w0.heap.size, 1, none⟩)) rfl (Reg.wanted_of rfl rfl (hl.yields 7 rfl rfl q33)) ?_
    clear hl
    generalize a.eval = ρ at *
    go_simp
  · intro a w hl   -- 9: slot 35
    have q34 : a.eval (.tmp 34) = .pointer (some ⟨w0.heap.size, 1, none⟩) := hl.has 8 rfl
    have q33 : a.eval (.tmp 33) = .bool false := hl.has 7 rfl
    have qc : ∀ x, a.eval (.const x) = x := fun _ => rfl
    refine Reg.does_is (x := .int .i64 c.bytes) rfl (Reg.wanted_of rfl rfl (hl.yields 7 rfl rfl q33)) ?_
    have hblk := blk_below HBK.out hl.below
    have hc0 := (blk_cell hblk 0).trans rfl
    have hc1 := (blk_cell hblk 1).trans rfl
    have hc2 := (blk_cell hblk 2).trans rfl
    have hc3 := (blk_cell hblk 3).trans rfl
    have hc4 := (blk_cell hblk 4).trans rfl
    have hc5 := (blk_cell hblk 5).trans rfl
    have hc6 := (blk_cell hblk 6).trans rfl
    have hc7 := (blk_cell hblk 7).trans rfl
    clear hl hblk
    generalize a.eval = ρ at *
    go_simp
  · intro a w hl   -- 10: slot 36
    have q1 : a.eval (.tmp 1) = .pointer (some ⟨w0.heap.size, 0, none⟩) := hl.out 1 rfl
    have q33 : a.eval (.tmp 33) = .bool false := hl.has 7 rfl
    have qc : ∀ x, a.eval (.const x) = x := fun _ => rfl
    refine Reg.does_is (x := .agg #[.int .i64 c.blocks, .int .i64 c.bytes, .int .i64 c.frames, .int .i64 c.fan, .int .i64 c.buf, .int .i64 c.leaf, .int .i64 c.key, .int .i64 c.val]) rfl (Reg.wanted_of rfl rfl (hl.yields 7 rfl rfl q33)) ?_
    have hblk := blk_below HBK.out hl.below
    have hc0 := (blk_cell hblk 0).trans rfl
    have hc1 := (blk_cell hblk 1).trans rfl
    have hc2 := (blk_cell hblk 2).trans rfl
    have hc3 := (blk_cell hblk 3).trans rfl
    have hc4 := (blk_cell hblk 4).trans rfl
    have hc5 := (blk_cell hblk 5).trans rfl
    have hc6 := (blk_cell hblk 6).trans rfl
    have hc7 := (blk_cell hblk 7).trans rfl
    clear hl hblk
    generalize a.eval = ρ at *
    go_simp
  · intro a w hl   -- 11: slot 37
    have q36 : a.eval (.tmp 36) = .agg #[.int .i64 c.blocks, .int .i64 c.bytes, .int .i64 c.frames, .int .i64 c.fan, .int .i64 c.buf, .int .i64 c.leaf, .int .i64 c.key, .int .i64 c.val] := hl.has 10 rfl
    have q33 : a.eval (.tmp 33) = .bool false := hl.has 7 rfl
    have qc : ∀ x, a.eval (.const x) = x := fun _ => rfl
    refine Reg.does_call_is (x := .agg #[.int .i64 c.least.blocks, .int .i64 c.least.bytes, .int .i64 c.least.frames, .int .i64 c.least.fan, .int .i64 c.least.buf, .int .i64 c.least.leaf, .int .i64 c.least.key, .int .i64 c.least.val]) #[.agg #[.int .i64 c.blocks, .int .i64 c.bytes, .int .i64 c.frames, .int .i64 c.fan, .int .i64 c.buf, .int .i64 c.leaf, .int .i64 c.key, .int .i64 c.val]] rfl (Reg.wanted_of rfl rfl (hl.yields 7 rfl rfl q33)) Try.func34 (by kernel_rfl) rfl rfl (by simp [qc, q36]) ?_
    exact least_calls c w
  · intro a w hl   -- 12: slot 38
    have q37 : a.eval (.tmp 37) = .agg #[.int .i64 c.least.blocks, .int .i64 c.least.bytes, .int .i64 c.least.frames, .int .i64 c.least.fan, .int .i64 c.least.buf, .int .i64 c.least.leaf, .int .i64 c.least.key, .int .i64 c.least.val] := hl.has 11 rfl
    have q33 : a.eval (.tmp 33) = .bool false := hl.has 7 rfl
    have qc : ∀ x, a.eval (.const x) = x := fun _ => rfl
    refine Reg.does_is (x := .int .i64 c.least.bytes) rfl (Reg.wanted_of rfl rfl (hl.yields 7 rfl rfl q33)) ?_
    clear hl
    generalize a.eval = ρ at *
    have hf := field1 c.least.blocks c.least.bytes c.least.frames c.least.fan c.least.buf c.least.leaf c.least.key c.least.val w
    go_simp
  · intro a w hl   -- 13: slot 39
    have q35 : a.eval (.tmp 35) = .int .i64 c.bytes := hl.has 9 rfl
    have q38 : a.eval (.tmp 38) = .int .i64 c.least.bytes := hl.has 12 rfl
    have q33 : a.eval (.tmp 33) = .bool false := hl.has 7 rfl
    have qc : ∀ x, a.eval (.const x) = x := fun _ => rfl
    refine Reg.does_is (x := .bool bx) rfl (Reg.wanted_of rfl rfl (hl.yields 7 rfl rfl q33)) ?_
    clear hl
    generalize a.eval = ρ at *
    have hbx := HBX.out
    go_simp
  · intro a w hl   -- 14: slot 40
    have q33 : a.eval (.tmp 33) = .bool false := hl.has 7 rfl
    have q39 : a.eval (.tmp 39) = .bool bx := hl.has 13 rfl
    have qc : ∀ x, a.eval (.const x) = x := fun _ => rfl
    refine Reg.does_is (x := .bool bx) rfl rfl ?_
    clear hl
    generalize a.eval = ρ at *
    go_simp
  · rintro v w hb ⟨e26, e27, e28, e29, e30, e31, e32, e33, e34, e35, e36, e37, e38, e39, e40, _⟩
    replace e26 : v 0 = .bool true := e26
    replace e27 : v 1 = .bool false := e27
    replace e28 : v 2 = .bool false := e28
    replace e29 : v 3 = .pointer (some ⟨w0.heap.size, 1, none⟩) := e29
    replace e30 : v 4 = .int .i64 c.bytes := e30
    replace e31 : v 5 = .bool false := e31
    replace e32 : v 6 = .bool false := e32
    replace e33 : v 7 = .bool false := e33
    replace e34 : v 8 = .pointer (some ⟨w0.heap.size, 1, none⟩) := e34
    replace e35 : v 9 = .int .i64 c.bytes := e35
    replace e36 : v 10 = .agg #[.int .i64 c.blocks, .int .i64 c.bytes, .int .i64 c.frames, .int .i64 c.fan, .int .i64 c.buf, .int .i64 c.leaf, .int .i64 c.key, .int .i64 c.val] := e36
    replace e37 : v 11 = .agg #[.int .i64 c.least.blocks, .int .i64 c.least.bytes, .int .i64 c.least.frames, .int .i64 c.least.fan, .int .i64 c.least.buf, .int .i64 c.least.leaf, .int .i64 c.least.key, .int .i64 c.least.val] := e37
    replace e38 : v 12 = .int .i64 c.least.bytes := e38
    replace e39 : v 13 = .bool bx := e39
    replace e40 : v 14 = .bool bx := e40
    simp only [Reg.putL, Act.put, List.setIfInBounds_toArray, List.set_cons_zero, List.set_cons_succ, e26, e27, e28, e29, e30, e31, e32, e33, e34, e35, e36, e37, e38, e39, e40]
    clear e26 e27 e28 e29 e30 e31 e32 e33 e34 e35 e36 e37 e38 e39 e40
    cases bx <;> (have hbx := HBX.out; have hr := HR.out; simp only [if_true, Bool.false_eq_true, if_false] at hr; subst hr; go_wp2; go_ret; exact ⟨rfl, below_step HB.out hb⟩)
theorem check_calls (c : Cfg) (w : World) : Calls Try.prog 18 #[c.v] w fun e w' => e = .returned (.int .i64 (if c.right then 0 else 2)) ∧ Below w.heap.size w w' := by
  have hr := c.right_iff
  by_cases h : c.ok
  · by_cases h2 : 65536 < c.bytes
    · rw [if_neg (by rw [hr]; exact fun h => h.2.1 h2)]
      exact check_big c w h h2
    · have := check_yes c w h (by omega)
      by_cases h3 : c.bytes < c.least.bytes
      · rw [if_pos h3] at this
        rw [if_neg (by rw [hr]; exact fun h => h.2.2 h3)]
        exact this
      · rw [if_neg h3] at this
        rw [if_pos (by rw [hr]; exact ⟨h, h2, h3⟩)]
        exact this
  · rw [if_neg (by rw [hr]; exact fun h' => h h'.1)]
    exact check_no c w h
theorem check_is (c : Cfg) (k : Nat) (hk : 5 ≤ k) : conf_Check.f k c.blocks c.bytes c.frames c.fan c.buf c.leaf c.key c.val = some (if c.right then 0 else 2) := by
  have hr := c.right_iff
  unfold conf_Check.f
  rw [sized_is c k hk, least_is c k hk]
  simp only [Option.bind_some]
  by_cases h : c.sized
  · rw [if_pos (by simpa using h)]
    by_cases h1 : 5 ≤ c.blocks
    · rw [if_pos h1]
      by_cases h2 : c.blocks ≤ 65536
      · rw [if_pos h2]
        by_cases h3 : 8 ≤ c.frames
        · rw [if_pos h3]
          by_cases h4 : c.frames ≤ 64
          · rw [if_pos h4]
            have hok : c.ok := ⟨h, h1, h2, h3, h4⟩
            by_cases h5 : 65536 < c.bytes
            · rw [if_pos h5, if_neg (by rw [hr]; exact fun h => h.2.1 h5)]
            · rw [if_neg h5]
              by_cases h6 : c.bytes < c.least.bytes
              · rw [if_pos h6, if_neg (by rw [hr]; exact fun h => h.2.2 h6)]
              · rw [if_neg h6, if_pos (by rw [hr]; exact ⟨hok, h5, h6⟩)]
          · rw [if_neg h4, if_neg (fun h => h4 h.2.2.2.2.1)]
        · rw [if_neg h3, if_neg (fun h => h3 h.2.2.2.1)]
      · rw [if_neg h2, if_neg (fun h => h2 h.2.2.1)]
    · rw [if_neg h1, if_neg (fun h => h1 h.2.1)]
  · rw [if_neg (by simpa using h), if_neg (fun h' => h h'.1)]
theorem conf_Check.calls (k : Nat) (a0_0 : Int) (a0_1 : Int) (a0_2 : Int) (a0_3 : Int) (a0_4 : Int) (a0_5 : Int) (a0_6 : Int) (a0_7 : Int) (r : Int) (w : World) (h : conf_Check.f k a0_0 a0_1 a0_2 a0_3 a0_4 a0_5 a0_6 a0_7 = some r) :
    Calls Try.prog 18 #[.agg #[.int .i64 a0_0, .int .i64 a0_1, .int .i64 a0_2, .int .i64 a0_3, .int .i64 a0_4, .int .i64 a0_5, .int .i64 a0_6, .int .i64 a0_7]] w fun e w' => e = .returned (.int .i64 r) ∧ Below w.heap.size w w' := by
  have h1 := at_rounds (fun k => conf_Check.mono a0_0 a0_1 a0_2 a0_3 a0_4 a0_5 a0_6 a0_7 k) (show k ≤ k + 5 by omega) h
  have h2 := check_is ⟨a0_0, a0_1, a0_2, a0_3, a0_4, a0_5, a0_6, a0_7⟩ (k + 5) (by omega)
  have e := Option.some.inj (h1.symm.trans h2)
  rw [e]
  exact check_calls ⟨a0_0, a0_1, a0_2, a0_3, a0_4, a0_5, a0_6, a0_7⟩ w
end Go.Proofs.Ytlnndkhnabooeaa.Q
