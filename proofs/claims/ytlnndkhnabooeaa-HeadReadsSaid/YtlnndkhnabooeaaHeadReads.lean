/- HeadReads: what the law's call comes to. -/
import Derived.Test.YtlnndkhnabooeaaHeadRDec
import Derived.Test.YtlnndkhnabooeaaHeadLaws
namespace Go.Proofs.Ytlnndkhnabooeaa.Head
open Go.RowKit Go.Proofs.YtlnndkhnabooeaaW.PrintWords Go.Proofs.YtlnndkhnabooeaaW.PrintLast Go.Proofs.YtlnndkhnabooeaaW.PrintMore
open Go.Proofs.Ytlnndkhnabooeaa Go.Proofs.Ytlnndkhnabooeaa.Vals Go.Proofs.Ytlnndkhnabooeaa.Word Go.Proofs.Ytlnndkhnabooeaa.Q Go.Proofs.Ytlnndkhnabooeaa.Math
set_option linter.unusedVariables false
set_option linter.unusedSimpArgs false

theorem reads_long {w : World} (A : Option Addr) (c : Nat) {b : List Int} (h2 : 70000 < b.length) : Calls Try.prog 4 #[.slice A b.length c] w fun e w' => e = .returned (.bool true) ∧ Below w.heap.size w w' := by
  have g1 : decide ((70000 : Int) < (b.length : Int)) = true := decide_eq_true (by omega)
  have g2 : decide (70000 < b.length) = true := decide_eq_true h2
  clear h2
  go_enter Try.func4, Try.ntmps4
  go_wp2_with fail
  refine (awake_calls _).mono ?_
  rintro en w1 ⟨rfl, hb⟩
  have HB := Aside0.mk hb
  clear hb
  go_wp2_with fail
  go_ret
  exact ⟨by simp, HB.out⟩

set_option maxHeartbeats 4000000 in
set_option maxRecDepth 100000 in
theorem reads_no {w : World} (A : Option Addr) (c : Nat) {b : List Int} (h : Bys b (.slice A b.length c) w) (hby : Byte b) (h2 : b.length ≤ 70000) (hi : ¬ isHd b) : Calls Try.prog 4 #[.slice A b.length c] w fun e w' => e = .returned (.bool true) ∧ Below w.heap.size w w' := by
  have g1 : decide ((70000 : Int) < (b.length : Int)) = false := decide_eq_false (by omega)
  have g2 : decide (70000 < b.length) = false := decide_eq_false (by omega)
  have hd := fun w h => dec_calls (w := w) (v := .slice A b.length c) (b := b) h hby (by omega)
  rw [show decV b = .tuple #[noHd, .int .i64 12] from if_neg hi] at hd
  have HD := Aside0.mk hd
  have hrd := fun w => rdec_calls (b := b) hby (by omega) w
  rw [rdec_no hi] at hrd
  have HRD := Aside0.mk hrd
  have HV := Aside0.mk h
  unfold noHd at HD HRD
  clear hd hrd h hi h2 hby
  go_enter Try.func4, Try.ntmps4
  go_wp2_with fail
  refine (HD.out _ HV.out).mono ?_
  rintro en w1 ⟨rfl, hb⟩
  have HV1 := Aside0.mk (HV.out.mono hb)
  have HB1 := Aside0.mk hb
  clear hb HD HV g1 g2
  go_upto_region 4 with fail
  have HZ := Aside0.mk (show (w1.alloc (.cells (hcells fun _ => 0) 26)).heap[w1.heap.size]? = some (.cells (hcells fun _ => 0) 26 (0, 0)) from blk_new w1 _)
  have HV2 := Aside0.mk (HV1.out.mono (below_alloc (Below.refl _ _) (.cells (hcells fun _ => 0) 26)))
  have HB2 := Aside0.mk (below_alloc HB1.out (.cells (hcells fun _ => 0) 26))
  clear HV1 HB1
  unfold hcells at HZ HV2 HB2
  generalize w1.alloc (.cells #[.int .i64 0, .int .i64 0, .int .i64 0, .int .i64 0, .int .i64 0, .int .i64 0, .int .i64 0, .int .i64 0, .int .u32 0, .int .i64 0] 26) = w2 at HZ HV2 HB2 ⊢
  generalize w1.heap.size = H at HZ ⊢
  have hs := run_str HV2.out
  go_wp2_with fail
  clear hs
  refine (HRD.out _).mono ?_
  rintro en w3 ⟨rfl, hb⟩
  have HZ3 := Aside0.mk (blk_below HZ.out hb)
  have HB3 := Aside0.mk (below_step HB2.out hb)
  clear hb HZ HB2 HV2 HRD
  go_upto_region 6 with fail
  have HZ4 := Aside0.mk (blk_below HZ3.out (below_alloc (Below.refl _ _) (.cells #[.int .i64 0, .int .i64 0, .int .i64 0, .int .i64 0, .int .i64 0, .int .i64 0, .int .i64 0, .int .i64 0, .int .u32 0, .int .i64 0] 32)))
  have HB4 := Aside0.mk (below_alloc HB3.out (.cells #[.int .i64 0, .int .i64 0, .int .i64 0, .int .i64 0, .int .i64 0, .int .i64 0, .int .i64 0, .int .i64 0, .int .u32 0, .int .i64 0] 32))
  clear HZ3 HB3
  generalize w3.alloc (.cells #[.int .i64 0, .int .i64 0, .int .i64 0, .int .i64 0, .int .i64 0, .int .i64 0, .int .i64 0, .int .i64 0, .int .u32 0, .int .i64 0] 32) = w4 at HZ4 HB4 ⊢
  obtain ⟨z0, z1, z2, z3, z4, z5, z6, z7, z8, z9⟩ := hcells_all (f := fun _ => 0) HZ4.out
  have he := fun d W => eqA26 d W 0 0 0 0 0 0 0 0 0 0 0 0 0 0 0 0 0 0 0 0
  go_wp2_with fail
  clear z0 z1 z2 z3 z4 z5 z6 z7 z8 z9 he
  refine (awake_calls _).mono ?_
  rintro en w5 ⟨rfl, hb⟩
  have HB5 := Aside0.mk (below_step HB4.out hb)
  clear hb
  go_wp2_with fail
  go_ret
  exact ⟨by simp, HB5.out⟩

set_option maxHeartbeats 4000000 in
set_option maxRecDepth 100000 in
theorem reads_yes {w : World} (A : Option Addr) (c : Nat) {b : List Int} (h : Bys b (.slice A b.length c) w) (hby : Byte b) (h2 : b.length ≤ 70000) (hi : isHd b) : Calls Try.prog 4 #[.slice A b.length c] w fun e w' => e = .returned (.bool true) ∧ Below w.heap.size w w' := by
  have g1 : decide ((70000 : Int) < (b.length : Int)) = false := decide_eq_false (by omega)
  have g2 : decide (70000 < b.length) = false := decide_eq_false (by omega)
  have hty : (hdOf b).typed := at4_bd hby 8
  have hd := fun w h => dec_calls (w := w) (v := .slice A b.length c) (b := b) h hby (by omega)
  have hrd := fun w => rdec_calls (b := b) hby (by omega) w
  obtain ⟨x, hx⟩ : ∃ x, hdOf b = x := ⟨_, rfl⟩
  rw [show decV b = .tuple #[x.v, .int .i64 0] from by unfold decV; rw [if_pos hi, hx]] at hd
  rw [show rdecV b = .tuple #[x.v, .bool true] from by unfold rdecV; rw [if_pos hi, decide_eq_true hi, hx]] at hrd
  have hr : x.right := by rw [← hx]; exact hi.2.1
  have hbk : x.blk = b := by rw [← hx]; exact hi.2.2
  rw [hx] at hty
  have HEN := Aside0.mk (fun w => enc_ok x hty hr w)
  have HBK := Aside0.mk hbk
  have HD := Aside0.mk hd
  have HRD := Aside0.mk hrd
  have HV0 := Aside0.mk h
  unfold Hd.v at HD HRD HEN
  clear hd hrd h hi h2 hby hx hr hbk hty
  go_enter Try.func4, Try.ntmps4
  go_wp2_with fail
  refine (HD.out _ HV0.out).mono ?_
  rintro en w1 ⟨rfl, hb⟩
  have HV1 := Aside0.mk (HV0.out.mono hb)
  have HB1 := Aside0.mk hb
  clear hb HD HV0 g1 g2
  go_upto_region 4 with fail
  have HZ := Aside0.mk (show HdAt (w1.alloc (.cells x.cs 26)) w1.heap.size 26 x from ⟨blk_new w1 _⟩)
  have HV2 := Aside0.mk (HV1.out.mono (below_alloc (Below.refl _ _) (.cells x.cs 26)))
  have HB2 := Aside0.mk (below_alloc HB1.out (.cells x.cs 26))
  clear HV1 HB1
  unfold Hd.cs at HZ HV2 HB2
  generalize w1.alloc (.cells #[.int .i64 x.c.blocks, .int .i64 x.c.bytes, .int .i64 x.c.frames, .int .i64 x.c.fan, .int .i64 x.c.buf, .int .i64 x.c.leaf, .int .i64 x.c.key, .int .i64 x.c.val, .int .u32 x.root, .int .i64 x.h] 26) = w2 at HZ HV2 HB2 ⊢
  generalize w1.heap.size = H at HZ ⊢
  have hs := run_str HV2.out
  go_wp2_with fail
  clear hs
  refine (HRD.out _).mono ?_
  rintro en w3 ⟨rfl, hb⟩
  have HZ3 := Aside0.mk (HZ.out.below hb)
  have HV3 := Aside0.mk (HV2.out.mono hb)
  have HB3 := Aside0.mk (below_step HB2.out hb)
  clear hb HZ HB2 HV2 HRD
  go_upto_region 7 with fail
  have HX4 := Aside0.mk (show HdAt (w3.alloc (.cells x.cs 32)) w3.heap.size 32 x from ⟨blk_new w3 _⟩)
  have HZ4 := Aside0.mk (HZ3.out.below (below_alloc (Below.refl _ _) (.cells x.cs 32)))
  have HV4 := Aside0.mk (HV3.out.mono (below_alloc (Below.refl _ _) (.cells x.cs 32)))
  have HB4 := Aside0.mk (below_alloc HB3.out (.cells x.cs 32))
  clear HZ3 HB3 HV3
  unfold Hd.cs at HX4 HZ4 HV4 HB4
  generalize w3.alloc (.cells #[.int .i64 x.c.blocks, .int .i64 x.c.bytes, .int .i64 x.c.frames, .int .i64 x.c.fan, .int .i64 x.c.buf, .int .i64 x.c.leaf, .int .i64 x.c.key, .int .i64 x.c.val, .int .u32 x.root, .int .i64 x.h] 32) = w4 at HX4 HZ4 HV4 HB4 ⊢
  generalize w3.heap.size = G at HX4 ⊢
  obtain ⟨k0, k1, k2, k3, k4, k5, k6, k7, k8, k9⟩ := HZ4.out.cells
  go_wp2_with fail
  clear k0 k1 k2 k3 k4 k5 k6 k7 k8 k9
  refine (HEN.out _).mono ?_
  rintro en w5 ⟨v5, rfl, hR, hb⟩
  rw [HBK.out] at hR
  obtain ⟨A2, c2, rfl, hc2, hC2⟩ := Kd.R_reads hR
  have HE := Aside0.mk (show Bys b (.slice A2 b.length c2) w5 from ⟨A2, c2, rfl, hc2, hC2⟩)
  have HX := Aside0.mk (HX4.out.below hb)
  have HH := Aside0.mk (HZ4.out.below hb)
  have HV := Aside0.mk (HV4.out.mono hb)
  have HB := Aside0.mk (below_step HB4.out hb)
  clear hb hR hc2 hC2 HX4 HZ4 HV4 HB4 HEN
  go_upto_region 8 with fail
  refine Reg.region_list [Reg.Is (.int .i64 0), Reg.Is (.bool true), Reg.Is (.bool true), Reg.Is (x.v), Reg.Is (x.v), Reg.Is (x.v), Reg.Is (.bool true), Reg.Is (.bool true), Reg.Is (.bool true), Reg.Is (.int .i64 0), Reg.Is (.bool true), Reg.Is (.bool true), Reg.Is (.bool true), Reg.Is (.slice A2 b.length c2), Reg.Is (.string (strOfNums b)), Reg.Is (.slice A b.length c), Reg.Is (.string (strOfNums b)), Reg.Is (.bool true), Reg.Is (.bool true), Reg.Is (.bool true), Reg.Is (.bool true), Reg.Is (.bool true), Reg.Is (.bool true)]
      [some 41, some 42, some 43, some 44, some 45, some 46, some 47, some 48, some 49, some 50, some 51, some 52, some 53, some 54, some 55, some 56, some 57, some 58, some 59, some 60, some 61, some 62, some 2] (by kernel_rfl) (by rfl) (by rfl) (by rfl) rfl ⟨Reg.mono_is _, Reg.mono_is _, Reg.mono_is _, Reg.mono_is _, Reg.mono_is _, Reg.mono_is _, Reg.mono_is _, Reg.mono_is _, Reg.mono_is _, Reg.mono_is _, Reg.mono_is _, Reg.mono_is _, Reg.mono_is _, Reg.mono_is _, Reg.mono_is _, Reg.mono_is _, Reg.mono_is _, Reg.mono_is _, Reg.mono_is _, Reg.mono_is _, Reg.mono_is _, Reg.mono_is _, Reg.mono_is _, trivial⟩ (Reg.noneOk_of (by rfl)) ⟨?_, ?_, ?_, ?_, ?_, ?_, ?_, ?_, ?_, ?_, ?_, ?_, ?_, ?_, ?_, ?_, ?_, ?_, ?_, ?_, ?_, ?_, ?_, trivial⟩ ?_
  · intro a w hl   -- 0: slot 41
    have q4 : a.eval (.tmp 4) = .int .i64 0 := hl.out 4 rfl
    have qc : ∀ x, a.eval (.const x) = x := fun _ => rfl
    refine Reg.does_is (x := .int .i64 0) rfl rfl ?_
    clear hl
    generalize a.eval = ρ at *
    go_simp
  · intro a w hl   -- 1: slot 42
    have q41 : a.eval (.tmp 41) = .int .i64 0 := hl.has 0 rfl
    have qc : ∀ x, a.eval (.const x) = x := fun _ => rfl
    refine Reg.does_is (x := .bool true) rfl rfl ?_
    clear hl
    generalize a.eval = ρ at *
    go_simp
  · intro a w hl   -- 2: slot 43
    have q42 : a.eval (.tmp 42) = .bool true := hl.has 1 rfl
    have qc : ∀ x, a.eval (.const x) = x := fun _ => rfl
    refine Reg.does_is (x := .bool true) rfl rfl ?_
    clear hl
    generalize a.eval = ρ at *
    go_simp
  · intro a w hl   -- 3: slot 44
    have q3 : a.eval (.tmp 3) = .pointer (some ⟨H, 0, none⟩) := hl.out 3 rfl
    have q43 : a.eval (.tmp 43) = .bool true := hl.has 2 rfl
    have qc : ∀ x, a.eval (.const x) = x := fun _ => rfl
    refine Reg.does_is (x := x.v) rfl (Reg.wanted_of rfl rfl (hl.yields 2 rfl rfl q43)) ?_
    obtain ⟨k0, k1, k2, k3, k4, k5, k6, k7, k8, k9⟩ := (HH.out.below hl.below).cells
    clear hl
    unfold Hd.v
    generalize a.eval = ρ at *
    go_simp
  · intro a w hl   -- 4: slot 45
    have q44 : a.eval (.tmp 44) = x.v := hl.has 3 rfl
    have q43 : a.eval (.tmp 43) = .bool true := hl.has 2 rfl
    have qc : ∀ x, a.eval (.const x) = x := fun _ => rfl
    refine Reg.does_call_is (x := x.v) #[x.v] rfl (Reg.wanted_of rfl rfl (hl.yields 2 rfl rfl q43)) Try.func8 (by kernel_rfl) rfl rfl (by simp [qc, q44]) ?_
    exact as_calls x w
  · intro a w hl   -- 5: slot 46
    have q5 : a.eval (.tmp 5) = .pointer (some ⟨G, 0, none⟩) := hl.out 5 rfl
    have q43 : a.eval (.tmp 43) = .bool true := hl.has 2 rfl
    have qc : ∀ x, a.eval (.const x) = x := fun _ => rfl
    refine Reg.does_is (x := x.v) rfl (Reg.wanted_of rfl rfl (hl.yields 2 rfl rfl q43)) ?_
    obtain ⟨k0, k1, k2, k3, k4, k5, k6, k7, k8, k9⟩ := (HX.out.below hl.below).cells
    clear hl
    unfold Hd.v
    generalize a.eval = ρ at *
    go_simp
  · intro a w hl   -- 6: slot 47
    have q45 : a.eval (.tmp 45) = x.v := hl.has 4 rfl
    have q46 : a.eval (.tmp 46) = x.v := hl.has 5 rfl
    have q43 : a.eval (.tmp 43) = .bool true := hl.has 2 rfl
    have qc : ∀ x, a.eval (.const x) = x := fun _ => rfl
    refine Reg.does_is (x := .bool true) rfl (Reg.wanted_of rfl rfl (hl.yields 2 rfl rfl q43)) ?_
    have he := fun d W => eqA32 d W x.c.blocks x.c.bytes x.c.frames x.c.fan x.c.buf x.c.leaf x.c.key x.c.val x.root x.h x.c.blocks x.c.bytes x.c.frames x.c.fan x.c.buf x.c.leaf x.c.key x.c.val x.root x.h
    clear hl
    unfold Hd.v at q45 q46
    generalize a.eval = ρ at *
    go_simp
  · intro a w hl   -- 7: slot 48
    have q43 : a.eval (.tmp 43) = .bool true := hl.has 2 rfl
    have q47 : a.eval (.tmp 47) = .bool true := hl.has 6 rfl
    have qc : ∀ x, a.eval (.const x) = x := fun _ => rfl
    refine Reg.does_is (x := .bool true) rfl rfl ?_
    clear hl
    generalize a.eval = ρ at *
    go_simp
  · intro a w hl   -- 8: slot 49
    have q48 : a.eval (.tmp 48) = .bool true := hl.has 7 rfl
    have qc : ∀ x, a.eval (.const x) = x := fun _ => rfl
    refine Reg.does_is (x := .bool true) rfl rfl ?_
    clear hl
    generalize a.eval = ρ at *
    go_simp
  · intro a w hl   -- 9: slot 50
    have q8 : a.eval (.tmp 8) = .int .i64 0 := hl.out 8 rfl
    have q49 : a.eval (.tmp 49) = .bool true := hl.has 8 rfl
    have qc : ∀ x, a.eval (.const x) = x := fun _ => rfl
    refine Reg.does_is (x := .int .i64 0) rfl (Reg.wanted_of rfl rfl (hl.yields 8 rfl rfl q49)) ?_
    clear hl
    generalize a.eval = ρ at *
    go_simp
  · intro a w hl   -- 10: slot 51
    have q50 : a.eval (.tmp 50) = .int .i64 0 := hl.has 9 rfl
    have q49 : a.eval (.tmp 49) = .bool true := hl.has 8 rfl
    have qc : ∀ x, a.eval (.const x) = x := fun _ => rfl
    refine Reg.does_is (x := .bool true) rfl (Reg.wanted_of rfl rfl (hl.yields 8 rfl rfl q49)) ?_
    clear hl
    generalize a.eval = ρ at *
    go_simp
  · intro a w hl   -- 11: slot 52
    have q49 : a.eval (.tmp 49) = .bool true := hl.has 8 rfl
    have q51 : a.eval (.tmp 51) = .bool true := hl.has 10 rfl
    have qc : ∀ x, a.eval (.const x) = x := fun _ => rfl
    refine Reg.does_is (x := .bool true) rfl rfl ?_
    clear hl
    generalize a.eval = ρ at *
    go_simp
  · intro a w hl   -- 12: slot 53
    have q52 : a.eval (.tmp 52) = .bool true := hl.has 11 rfl
    have qc : ∀ x, a.eval (.const x) = x := fun _ => rfl
    refine Reg.does_is (x := .bool true) rfl rfl ?_
    clear hl
    generalize a.eval = ρ at *
    go_simp
  · intro a w hl   -- 13: slot 54
    have q7 : a.eval (.tmp 7) = .slice A2 b.length c2 := hl.out 7 rfl
    have q53 : a.eval (.tmp 53) = .bool true := hl.has 12 rfl
    have qc : ∀ x, a.eval (.const x) = x := fun _ => rfl
    refine Reg.does_is (x := .slice A2 b.length c2) rfl (Reg.wanted_of rfl rfl (hl.yields 12 rfl rfl q53)) ?_
    clear hl
    generalize a.eval = ρ at *
    go_simp
  · intro a w hl   -- 14: slot 55
    have q54 : a.eval (.tmp 54) = .slice A2 b.length c2 := hl.has 13 rfl
    have q53 : a.eval (.tmp 53) = .bool true := hl.has 12 rfl
    have qc : ∀ x, a.eval (.const x) = x := fun _ => rfl
    refine Reg.does_is (x := .string (strOfNums b)) rfl (Reg.wanted_of rfl rfl (hl.yields 12 rfl rfl q53)) ?_
    have hs := run_str (HE.out.mono hl.below)
    clear hl
    generalize a.eval = ρ at *
    go_simp
  · intro a w hl   -- 15: slot 56
    have q0 : a.eval (.tmp 0) = .slice A b.length c := hl.out 0 rfl
    have q53 : a.eval (.tmp 53) = .bool true := hl.has 12 rfl
    have qc : ∀ x, a.eval (.const x) = x := fun _ => rfl
    refine Reg.does_is (x := .slice A b.length c) rfl (Reg.wanted_of rfl rfl (hl.yields 12 rfl rfl q53)) ?_
    clear hl
    generalize a.eval = ρ at *
    go_simp
  · intro a w hl   -- 16: slot 57
    have q56 : a.eval (.tmp 56) = .slice A b.length c := hl.has 15 rfl
    have q53 : a.eval (.tmp 53) = .bool true := hl.has 12 rfl
    have qc : ∀ x, a.eval (.const x) = x := fun _ => rfl
    refine Reg.does_is (x := .string (strOfNums b)) rfl (Reg.wanted_of rfl rfl (hl.yields 12 rfl rfl q53)) ?_
    have hs := run_str (HV.out.mono hl.below)
    clear hl
    generalize a.eval = ρ at *
    go_simp
  · intro a w hl   -- 17: slot 58
    have q55 : a.eval (.tmp 55) = .string (strOfNums b) := hl.has 14 rfl
    have q57 : a.eval (.tmp 57) = .string (strOfNums b) := hl.has 16 rfl
    have q53 : a.eval (.tmp 53) = .bool true := hl.has 12 rfl
    have qc : ∀ x, a.eval (.const x) = x := fun _ => rfl
    refine Reg.does_is (x := .bool true) rfl (Reg.wanted_of rfl rfl (hl.yields 12 rfl rfl q53)) ?_
    clear hl
    generalize a.eval = ρ at *
    go_simp
  · intro a w hl   -- 18: slot 59
    have q53 : a.eval (.tmp 53) = .bool true := hl.has 12 rfl
    have q58 : a.eval (.tmp 58) = .bool true := hl.has 17 rfl
    have qc : ∀ x, a.eval (.const x) = x := fun _ => rfl
    refine Reg.does_is (x := .bool true) rfl rfl ?_
    clear hl
    generalize a.eval = ρ at *
    go_simp
  · intro a w hl   -- 19: slot 60
    have q59 : a.eval (.tmp 59) = .bool true := hl.has 18 rfl
    have qc : ∀ x, a.eval (.const x) = x := fun _ => rfl
    refine Reg.does_is (x := .bool true) rfl rfl ?_
    clear hl
    generalize a.eval = ρ at *
    go_simp
  · intro a w hl   -- 20: slot 61
    have q60 : a.eval (.tmp 60) = .bool true := hl.has 19 rfl
    have qc : ∀ x, a.eval (.const x) = x := fun _ => rfl
    refine Reg.does_call_is (x := .bool true) #[] rfl (Reg.wanted_of rfl rfl (hl.yields 19 rfl rfl q60)) Try.func10 (by kernel_rfl) rfl rfl (by simp [qc]) ?_
    exact awake_calls w
  · intro a w hl   -- 21: slot 62
    have q60 : a.eval (.tmp 60) = .bool true := hl.has 19 rfl
    have q61 : a.eval (.tmp 61) = .bool true := hl.has 20 rfl
    have qc : ∀ x, a.eval (.const x) = x := fun _ => rfl
    refine Reg.does_is (x := .bool true) rfl rfl ?_
    clear hl
    generalize a.eval = ρ at *
    go_simp
  · intro a w hl   -- 22: slot 2
    have q62 : a.eval (.tmp 62) = .bool true := hl.has 21 rfl
    have qc : ∀ x, a.eval (.const x) = x := fun _ => rfl
    refine Reg.does_is (x := .bool true) rfl rfl ?_
    clear hl
    generalize a.eval = ρ at *
    go_simp
  · rintro v w hb ⟨e41, e42, e43, e44, e45, e46, e47, e48, e49, e50, e51, e52, e53, e54, e55, e56, e57, e58, e59, e60, e61, e62, e2, _⟩
    replace e41 : v 0 = .int .i64 0 := e41
    replace e42 : v 1 = .bool true := e42
    replace e43 : v 2 = .bool true := e43
    replace e44 : v 3 = x.v := e44
    replace e45 : v 4 = x.v := e45
    replace e46 : v 5 = x.v := e46
    replace e47 : v 6 = .bool true := e47
    replace e48 : v 7 = .bool true := e48
    replace e49 : v 8 = .bool true := e49
    replace e50 : v 9 = .int .i64 0 := e50
    replace e51 : v 10 = .bool true := e51
    replace e52 : v 11 = .bool true := e52
    replace e53 : v 12 = .bool true := e53
    replace e54 : v 13 = .slice A2 b.length c2 := e54
    replace e55 : v 14 = .string (strOfNums b) := e55
    replace e56 : v 15 = .slice A b.length c := e56
    replace e57 : v 16 = .string (strOfNums b) := e57
    replace e58 : v 17 = .bool true := e58
    replace e59 : v 18 = .bool true := e59
    replace e60 : v 19 = .bool true := e60
    replace e61 : v 20 = .bool true := e61
    replace e62 : v 21 = .bool true := e62
    replace e2 : v 22 = .bool true := e2
    simp only [Reg.putL, Act.put, List.setIfInBounds_toArray, List.set_cons_zero, List.set_cons_succ, e41, e42, e43, e44, e45, e46, e47, e48, e49, e50, e51, e52, e53, e54, e55, e56, e57, e58, e59, e60, e61, e62, e2]
    clear e41 e42 e43 e44 e45 e46 e47 e48 e49 e50 e51 e52 e53 e54 e55 e56 e57 e58 e59 e60 e61 e62 e2
    have HB9 := Aside0.mk (below_step HB.out hb)
    clear hb
    go_wp2_with fail
    go_ret
    exact ⟨by simp, HB9.out⟩

theorem reads_calls {w : World} (A : Option Addr) (c : Nat) {b : List Int} (h : Bys b (.slice A b.length c) w) (hby : Byte b) : Calls Try.prog 4 #[.slice A b.length c] w fun e w' => e = .returned (.bool true) ∧ Below w.heap.size w w' := by
  by_cases h2 : 70000 < b.length
  · exact reads_long A c h2
  · by_cases hi : isHd b
    · exact reads_yes A c h hby (by omega) hi
    · exact reads_no A c h hby (by omega) hi
end Go.Proofs.Ytlnndkhnabooeaa.Head
