/- HeadWrites: what the law's call comes to. -/
import Derived.Test.YtlnndkhnabooeaaHeadLaws
namespace Go.Proofs.Ytlnndkhnabooeaa.Head
open Go.RowKit Go.Proofs.YtlnndkhnabooeaaW.PrintWords Go.Proofs.YtlnndkhnabooeaaW.PrintLast Go.Proofs.YtlnndkhnabooeaaW.PrintMore
open Go.Proofs.Ytlnndkhnabooeaa Go.Proofs.Ytlnndkhnabooeaa.Vals Go.Proofs.Ytlnndkhnabooeaa.Word Go.Proofs.Ytlnndkhnabooeaa.Q Go.Proofs.Ytlnndkhnabooeaa.Math
set_option linter.unusedVariables false
set_option linter.unusedSimpArgs false

theorem writes_bad (x : Hd) (hx : x.typed) (hr : ¬ x.right) (w : World) : Calls Try.prog 3 #[x.v] w fun e w' => e = .returned (.bool true) ∧ Below w.heap.size w w' := by
  have HZ := Aside0.mk (show HdAt (w.alloc (.cells x.cs 26)) w.heap.size 26 x from ⟨blk_new w _⟩)
  have HB := Aside0.mk (below_alloc (Below.refl w.heap.size w) (.cells x.cs 26))
  have HEN := Aside0.mk (fun w => enc_bad x hx hr w)
  have HAS := Aside0.mk (fun w => as_calls x w)
  have hrr := fun w => rhright_calls x hx w
  rw [decide_eq_false hr] at hrr
  have HRR := Aside0.mk hrr
  have hhr := fun w => hright_calls x hx w
  rw [decide_eq_false hr] at hhr
  have HHR := Aside0.mk hhr
  clear hrr hhr hr hx
  unfold Hd.v at HEN HAS HRR HHR ⊢
  unfold Hd.cs at HZ HB
  unfold bad at HEN
  go_enter Try.func3, Try.ntmps3
  go_wp2_with fail
  refine (HEN.out _).mono ?_
  rintro en w1 ⟨rfl, hb⟩
  have HZ1 := Aside0.mk (HZ.out.below hb)
  have HB1 := Aside0.mk (below_step HB.out hb)
  clear hb HZ HB HEN
  obtain ⟨k0, k1, k2, k3, k4, k5, k6, k7, k8, k9⟩ := HZ1.out.cells
  go_wp2_with fail
  clear k0 k1 k2 k3 k4 k5 k6 k7 k8 k9
  refine (HAS.out _).mono ?_
  rintro en w2 ⟨rfl, hb⟩
  have HZ2 := Aside0.mk (HZ1.out.below hb)
  have HB2 := Aside0.mk (below_step HB1.out hb)
  clear hb HZ1 HB1 HAS
  go_wp2_with fail
  refine (HRR.out _).mono ?_
  rintro en w3 ⟨rfl, hb⟩
  have HZ3 := Aside0.mk (HZ2.out.below hb)
  have HB3 := Aside0.mk (below_step HB2.out hb)
  clear hb HZ2 HB2 HRR
  obtain ⟨k0, k1, k2, k3, k4, k5, k6, k7, k8, k9⟩ := HZ3.out.cells
  go_wp2_with fail
  clear k0 k1 k2 k3 k4 k5 k6 k7 k8 k9
  refine (HHR.out _).mono ?_
  rintro en w4 ⟨rfl, hb⟩
  have HB4 := Aside0.mk (below_step HB3.out hb)
  clear hb HB3 HHR
  go_wp2_with fail
  refine (awake_calls _).mono ?_
  rintro en w5 ⟨rfl, hb⟩
  have HB5 := Aside0.mk (below_step HB4.out hb)
  clear hb HB4
  go_wp2_with fail
  go_ret
  exact ⟨by simp, HB5.out⟩

set_option maxHeartbeats 4000000 in
set_option maxRecDepth 100000 in
theorem writes_ok (x : Hd) (hx : x.typed) (hr : x.right) (w : World) : Calls Try.prog 3 #[x.v] w fun e w' => e = .returned (.bool true) ∧ Below w.heap.size w w' := by
  have HZ := Aside0.mk (show HdAt (w.alloc (.cells x.cs 26)) w.heap.size 26 x from ⟨blk_new w _⟩)
  have HB := Aside0.mk (below_alloc (Below.refl w.heap.size w) (.cells x.cs 26))
  have HEN := Aside0.mk (fun w => enc_ok x hx hr w)
  have HAS := Aside0.mk (fun w => as_calls x w)
  have hrr := fun w => rhright_calls x hx w
  rw [decide_eq_true hr] at hrr
  have HRR := Aside0.mk hrr
  have hhr := fun w => hright_calls x hx w
  rw [decide_eq_true hr] at hhr
  have HHR := Aside0.mk hhr
  have HRT := Aside0.mk hr
  clear hrr hhr hr hx
  unfold Hd.v
  unfold Hd.v at HEN HAS HRR
  unfold Hd.cs at HZ HB
  go_enter Try.func3, Try.ntmps3
  go_wp2_with fail
  refine (HEN.out _).mono ?_
  rintro en w1 ⟨v1, rfl, hR, hb⟩
  obtain ⟨A, c, rfl, hc1, hC1⟩ := Kd.R_reads hR
  have HB1L := Aside0.mk (show Bys x.blk (.slice A x.blk.length c) w1 from ⟨A, c, rfl, hc1, hC1⟩)
  have HZ1 := Aside0.mk (HZ.out.below hb)
  have HB1 := Aside0.mk (below_step HB.out hb)
  clear hb HZ HB HEN hR hc1 hC1
  obtain ⟨k0, k1, k2, k3, k4, k5, k6, k7, k8, k9⟩ := HZ1.out.cells
  go_wp2_with fail
  clear k0 k1 k2 k3 k4 k5 k6 k7 k8 k9
  refine (HAS.out _).mono ?_
  rintro en w2 ⟨rfl, hb⟩
  have HZ2 := Aside0.mk (HZ1.out.below hb)
  have HB2 := Aside0.mk (below_step HB1.out hb)
  have HB2L := Aside0.mk (HB1L.out.mono hb)
  clear hb HZ1 HB1 HAS HB1L
  go_wp2_with fail
  refine (HRR.out _).mono ?_
  rintro en w3 ⟨rfl, hb⟩
  have HZ := Aside0.mk (HZ2.out.below hb)
  have HB := Aside0.mk (below_step HB2.out hb)
  have HBL := Aside0.mk (HB2L.out.mono hb)
  clear hb HZ2 HB2 HRR HB2L
  obtain ⟨S, hS⟩ : ∃ S, w.heap.size = S := ⟨_, rfl⟩
  rw [hS] at HZ
  go_upto_region 4 with fail
  clear hS
  refine Reg.region_list [Reg.Is (.int .i64 0), Reg.Is (.bool true), Reg.Is (.bool true), Reg.Is (.slice A x.blk.length c), Reg.Is (.string (strOfNums x.blk)), Reg.Is (x.v), Reg.Is (x.v), Reg.Is (.string (strOfNums x.blk)), Reg.Is (.bool true), Reg.Is (.bool true), Reg.Is (.bool true), Reg.Is (x.v), Reg.Is (.bool true), Reg.Is (.bool true), Reg.Is (.bool true), Reg.Is (.bool true), Reg.Is (.bool true), Reg.Is (.bool true)]
      [some 29, some 30, some 31, some 32, some 33, some 34, some 35, some 36, some 37, some 38, some 39, some 40, some 41, some 42, some 43, some 44, some 45, some 2] (by kernel_rfl) (by rfl) (by rfl) (by rfl) rfl ⟨Reg.mono_is _, Reg.mono_is _, Reg.mono_is _, Reg.mono_is _, Reg.mono_is _, Reg.mono_is _, Reg.mono_is _, Reg.mono_is _, Reg.mono_is _, Reg.mono_is _, Reg.mono_is _, Reg.mono_is _, Reg.mono_is _, Reg.mono_is _, Reg.mono_is _, Reg.mono_is _, Reg.mono_is _, Reg.mono_is _, trivial⟩ (Reg.noneOk_of (by rfl)) ⟨?_, ?_, ?_, ?_, ?_, ?_, ?_, ?_, ?_, ?_, ?_, ?_, ?_, ?_, ?_, ?_, ?_, ?_, trivial⟩ ?_
  · intro a w hl   -- 0: slot 29
    have q4 : a.eval (.tmp 4) = .int .i64 0 := hl.out 4 rfl
    have qc : ∀ x, a.eval (.const x) = x := fun _ => rfl
    refine Reg.does_is (x := .int .i64 0) rfl rfl ?_
    clear hl
    generalize a.eval = ρ at *
    go_simp
  · intro a w hl   -- 1: slot 30
    have q29 : a.eval (.tmp 29) = .int .i64 0 := hl.has 0 rfl
    have qc : ∀ x, a.eval (.const x) = x := fun _ => rfl
    refine Reg.does_is (x := .bool true) rfl rfl ?_
    clear hl
    generalize a.eval = ρ at *
    go_simp
  · intro a w hl   -- 2: slot 31
    have q30 : a.eval (.tmp 30) = .bool true := hl.has 1 rfl
    have qc : ∀ x, a.eval (.const x) = x := fun _ => rfl
    refine Reg.does_is (x := .bool true) rfl rfl ?_
    clear hl
    generalize a.eval = ρ at *
    go_simp
  · intro a w hl   -- 3: slot 32
    have q3 : a.eval (.tmp 3) = .slice A x.blk.length c := hl.out 3 rfl
    have q31 : a.eval (.tmp 31) = .bool true := hl.has 2 rfl
    have qc : ∀ x, a.eval (.const x) = x := fun _ => rfl
    refine Reg.does_is (x := .slice A x.blk.length c) rfl (Reg.wanted_of rfl rfl (hl.yields 2 rfl rfl q31)) ?_
    clear hl
    generalize a.eval = ρ at *
    go_simp
  · intro a w hl   -- 4: slot 33
    have q32 : a.eval (.tmp 32) = .slice A x.blk.length c := hl.has 3 rfl
    have q31 : a.eval (.tmp 31) = .bool true := hl.has 2 rfl
    have qc : ∀ x, a.eval (.const x) = x := fun _ => rfl
    refine Reg.does_is (x := .string (strOfNums x.blk)) rfl (Reg.wanted_of rfl rfl (hl.yields 2 rfl rfl q31)) ?_
    have hs := run_str (HBL.out.mono hl.below)
    clear hl
    generalize a.eval = ρ at *
    go_simp
  · intro a w hl   -- 5: slot 34
    have q1 : a.eval (.tmp 1) = .pointer (some ⟨S, 0, none⟩) := hl.out 1 rfl
    have q31 : a.eval (.tmp 31) = .bool true := hl.has 2 rfl
    have qc : ∀ x, a.eval (.const x) = x := fun _ => rfl
    refine Reg.does_is (x := x.v) rfl (Reg.wanted_of rfl rfl (hl.yields 2 rfl rfl q31)) ?_
    obtain ⟨k0, k1, k2, k3, k4, k5, k6, k7, k8, k9⟩ := (HZ.out.below hl.below).cells
    clear hl
    unfold Hd.v
    generalize a.eval = ρ at *
    go_simp
  · intro a w hl   -- 6: slot 35
    have q34 : a.eval (.tmp 34) = x.v := hl.has 5 rfl
    have q31 : a.eval (.tmp 31) = .bool true := hl.has 2 rfl
    have qc : ∀ x, a.eval (.const x) = x := fun _ => rfl
    refine Reg.does_call_is (x := x.v) #[x.v] rfl (Reg.wanted_of rfl rfl (hl.yields 2 rfl rfl q31)) Try.func8 (by kernel_rfl) rfl rfl (by simp [qc, q34]) ?_
    exact as_calls x w
  · intro a w hl   -- 7: slot 36
    have q35 : a.eval (.tmp 35) = x.v := hl.has 6 rfl
    have q31 : a.eval (.tmp 31) = .bool true := hl.has 2 rfl
    have qc : ∀ x, a.eval (.const x) = x := fun _ => rfl
    refine Reg.does_call_is (x := .string (strOfNums x.blk)) #[x.v] rfl (Reg.wanted_of rfl rfl (hl.yields 2 rfl rfl q31)) Try.func11 (by kernel_rfl) rfl rfl (by simp [qc, q35]) ?_
    exact block_calls x HRT.out w
  · intro a w hl   -- 8: slot 37
    have q33 : a.eval (.tmp 33) = .string (strOfNums x.blk) := hl.has 4 rfl
    have q36 : a.eval (.tmp 36) = .string (strOfNums x.blk) := hl.has 7 rfl
    have q31 : a.eval (.tmp 31) = .bool true := hl.has 2 rfl
    have qc : ∀ x, a.eval (.const x) = x := fun _ => rfl
    refine Reg.does_is (x := .bool true) rfl (Reg.wanted_of rfl rfl (hl.yields 2 rfl rfl q31)) ?_
    clear hl
    generalize a.eval = ρ at *
    go_simp
  · intro a w hl   -- 9: slot 38
    have q31 : a.eval (.tmp 31) = .bool true := hl.has 2 rfl
    have q37 : a.eval (.tmp 37) = .bool true := hl.has 8 rfl
    have qc : ∀ x, a.eval (.const x) = x := fun _ => rfl
    refine Reg.does_is (x := .bool true) rfl rfl ?_
    clear hl
    generalize a.eval = ρ at *
    go_simp
  · intro a w hl   -- 10: slot 39
    have q38 : a.eval (.tmp 38) = .bool true := hl.has 9 rfl
    have qc : ∀ x, a.eval (.const x) = x := fun _ => rfl
    refine Reg.does_is (x := .bool true) rfl rfl ?_
    clear hl
    generalize a.eval = ρ at *
    go_simp
  · intro a w hl   -- 11: slot 40
    have q1 : a.eval (.tmp 1) = .pointer (some ⟨S, 0, none⟩) := hl.out 1 rfl
    have q39 : a.eval (.tmp 39) = .bool true := hl.has 10 rfl
    have qc : ∀ x, a.eval (.const x) = x := fun _ => rfl
    refine Reg.does_is (x := x.v) rfl (Reg.wanted_of rfl rfl (hl.yields 10 rfl rfl q39)) ?_
    obtain ⟨k0, k1, k2, k3, k4, k5, k6, k7, k8, k9⟩ := (HZ.out.below hl.below).cells
    clear hl
    unfold Hd.v
    generalize a.eval = ρ at *
    go_simp
  · intro a w hl   -- 12: slot 41
    have q40 : a.eval (.tmp 40) = x.v := hl.has 11 rfl
    have q39 : a.eval (.tmp 39) = .bool true := hl.has 10 rfl
    have qc : ∀ x, a.eval (.const x) = x := fun _ => rfl
    refine Reg.does_call_is (x := .bool true) #[x.v] rfl (Reg.wanted_of rfl rfl (hl.yields 10 rfl rfl q39)) Try.func9 (by kernel_rfl) rfl rfl (by simp [qc, q40]) ?_
    exact HHR.out w
  · intro a w hl   -- 13: slot 42
    have q39 : a.eval (.tmp 39) = .bool true := hl.has 10 rfl
    have q41 : a.eval (.tmp 41) = .bool true := hl.has 12 rfl
    have qc : ∀ x, a.eval (.const x) = x := fun _ => rfl
    refine Reg.does_is (x := .bool true) rfl rfl ?_
    clear hl
    generalize a.eval = ρ at *
    go_simp
  · intro a w hl   -- 14: slot 43
    have q42 : a.eval (.tmp 42) = .bool true := hl.has 13 rfl
    have qc : ∀ x, a.eval (.const x) = x := fun _ => rfl
    refine Reg.does_is (x := .bool true) rfl rfl ?_
    clear hl
    generalize a.eval = ρ at *
    go_simp
  · intro a w hl   -- 15: slot 44
    have q43 : a.eval (.tmp 43) = .bool true := hl.has 14 rfl
    have qc : ∀ x, a.eval (.const x) = x := fun _ => rfl
    refine Reg.does_call_is (x := .bool true) #[] rfl (Reg.wanted_of rfl rfl (hl.yields 14 rfl rfl q43)) Try.func10 (by kernel_rfl) rfl rfl (by simp [qc]) ?_
    exact awake_calls w
  · intro a w hl   -- 16: slot 45
    have q43 : a.eval (.tmp 43) = .bool true := hl.has 14 rfl
    have q44 : a.eval (.tmp 44) = .bool true := hl.has 15 rfl
    have qc : ∀ x, a.eval (.const x) = x := fun _ => rfl
    refine Reg.does_is (x := .bool true) rfl rfl ?_
    clear hl
    generalize a.eval = ρ at *
    go_simp
  · intro a w hl   -- 17: slot 2
    have q45 : a.eval (.tmp 45) = .bool true := hl.has 16 rfl
    have qc : ∀ x, a.eval (.const x) = x := fun _ => rfl
    refine Reg.does_is (x := .bool true) rfl rfl ?_
    clear hl
    generalize a.eval = ρ at *
    go_simp
  · rintro v w hb ⟨e29, e30, e31, e32, e33, e34, e35, e36, e37, e38, e39, e40, e41, e42, e43, e44, e45, e2, _⟩
    replace e29 : v 0 = .int .i64 0 := e29
    replace e30 : v 1 = .bool true := e30
    replace e31 : v 2 = .bool true := e31
    replace e32 : v 3 = .slice A x.blk.length c := e32
    replace e33 : v 4 = .string (strOfNums x.blk) := e33
    replace e34 : v 5 = x.v := e34
    replace e35 : v 6 = x.v := e35
    replace e36 : v 7 = .string (strOfNums x.blk) := e36
    replace e37 : v 8 = .bool true := e37
    replace e38 : v 9 = .bool true := e38
    replace e39 : v 10 = .bool true := e39
    replace e40 : v 11 = x.v := e40
    replace e41 : v 12 = .bool true := e41
    replace e42 : v 13 = .bool true := e42
    replace e43 : v 14 = .bool true := e43
    replace e44 : v 15 = .bool true := e44
    replace e45 : v 16 = .bool true := e45
    replace e2 : v 17 = .bool true := e2
    simp only [Reg.putL, Act.put, List.setIfInBounds_toArray, List.set_cons_zero, List.set_cons_succ, e29, e30, e31, e32, e33, e34, e35, e36, e37, e38, e39, e40, e41, e42, e43, e44, e45, e2]
    clear e29 e30 e31 e32 e33 e34 e35 e36 e37 e38 e39 e40 e41 e42 e43 e44 e45 e2
    have HB9 := Aside0.mk (below_step HB.out hb)
    clear hb
    go_wp2_with fail
    go_ret
    exact ⟨by simp, HB9.out⟩

theorem writes_calls (x : Hd) (hx : x.typed) (w : World) : Calls Try.prog 3 #[x.v] w fun e w' => e = .returned (.bool true) ∧ Below w.heap.size w w' := by
  by_cases hr : x.right
  · exact writes_ok x hx hr w
  · exact writes_bad x hx hr w
end Go.Proofs.Ytlnndkhnabooeaa.Head
