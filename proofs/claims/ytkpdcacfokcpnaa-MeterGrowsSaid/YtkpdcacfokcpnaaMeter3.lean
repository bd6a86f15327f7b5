/- A meter: Within. -/
import Derived.Test.YtkpdcacfokcpnaaMeter2
import Derived.Test.YtkpdcacfokcpnaaReg
namespace Go.Proofs.Ytkpdcacfokcpnaa.Q
open Go.RowKit Go.Proofs.YtkpdcacfokcpnaaW.PrintWords Go.Proofs.YtkpdcacfokcpnaaW.PrintLast Go.Proofs.YtkpdcacfokcpnaaW.PrintMore
open Go.Proofs.Ytkpdcacfokcpnaa Go.Proofs.Ytkpdcacfokcpnaa.Vals
set_option linter.unusedVariables false
set_option linter.unusedSimpArgs false

theorem k_bd {l : List S37} (h : Heard l) (hl : l.length ≤ 1048576) (k : Int) : (0 ≤ kR l k ∧ kR l k ≤ 1152921504606846976) ∧ (0 ≤ kW l k ∧ kW l k ≤ 1152921504606846976) ∧ (0 ≤ kM l k ∧ kM l k ≤ 2199023255552) := by
  obtain ⟨a, b, c⟩ := sum_bd k l h
  have hm : (l.length : Int) * 1099511627776 ≤ 1152921504606846976 := by omega
  unfold kR kW kM
  refine ⟨?_, ?_, ?_⟩ <;> split <;> omega
def mCost (l : List S37) : Int := kR l 1 + kW l 1 + kR l 2 + kW l 2

theorem within_any {w : World} {g : Nat} {c : Cfg} {l : List S37} (h : Met w g c l) : Calls Try.prog 20 #[.pointer (some ⟨g, 0, none⟩)] w fun e w' => e = .returned (.bool (decide (mCost l ≤ mBnd c l))) ∧ Below w.heap.size w w' := by
  have HN := Aside0.mk (none_met h)
  have HM := Aside0.mk h
  obtain ⟨p1, p2, _⟩ := k_bd h.heard h.le 1
  obtain ⟨d1, d2, _⟩ := k_bd h.heard h.le 2
  have HS := Aside0.mk (show 0 ≤ kR l 1 ∧ kR l 1 ≤ 1152921504606846976 ∧ 0 ≤ kW l 1 ∧ kW l 1 ≤ 1152921504606846976 ∧ 0 ≤ kR l 2 ∧ kR l 2 ≤ 1152921504606846976 ∧ 0 ≤ kW l 2 ∧ kW l 2 ≤ 1152921504606846976 from ⟨p1.1, p1.2, p2.1, p2.2, d1.1, d1.2, d2.1, d2.2⟩)
  have HS1 := Aside0.mk (sum_any h 1)
  unfold mCost
  clear h p1 p2 d1 d2
  obtain ⟨pr, hpr⟩ : ∃ x, kR l 1 = x := ⟨_, rfl⟩
  obtain ⟨pw, hpw⟩ : ∃ x, kW l 1 = x := ⟨_, rfl⟩
  obtain ⟨dr, hdr⟩ : ∃ x, kR l 2 = x := ⟨_, rfl⟩
  obtain ⟨dw, hdw⟩ : ∃ x, kW l 2 = x := ⟨_, rfl⟩
  rw [hpr, hpw] at HS HS1 ⊢
  rw [hdr, hdw] at HS ⊢
  have HDR := Aside0.mk hdr
  have HDW := Aside0.mk hdw
  clear hpr hpw hdr hdw
  go_enter Try.func20, Try.ntmps20
  go_wp2_with fail
  refine HN.out.mono ?_
  rintro en w' ⟨rfl, rfl⟩
  go_wp2_with fail
  refine HS1.out.mono ?_
  rintro en w1 ⟨rfl, hb⟩
  have HM1 := Aside0.mk (HM.out.below hb)
  have HB1 := Aside0.mk hb
  clear hb HM HS1 HN
  go_wp2_with fail
  have hs2 := sum_any HM1.out 2
  rw [HDR.out, HDW.out] at hs2
  refine hs2.mono ?_
  clear hs2
  rintro en w2 ⟨rfl, hb⟩
  have HM2 := Aside0.mk (HM1.out.below hb)
  have HB2 := Aside0.mk (below_step HB1.out hb)
  clear hb HM1 HB1
  go_wp2_with fail
  have hz := blk_new w2 (.cells #[.int .u64 pr, .int .u64 pw] 35)
  have hz3 := Aside0.mk (blk_below hz (below_alloc (Below.refl _ _) (.cells #[.int .u64 dr, .int .u64 dw] 35)))
  have hz4 := blk_new (w2.alloc (.cells #[.int .u64 pr, .int .u64 pw] 35)) (.cells #[.int .u64 dr, .int .u64 dw] 35)
  rw [show (w2.alloc (.cells #[.int .u64 pr, .int .u64 pw] 35)).heap.size = w2.heap.size + 1 from Array.size_push _] at hz4
  have H3 := hz3
  have H4 := Aside0.mk hz4
  have hb4 := below_alloc (below_alloc (Below.refl w2.heap.size w2) (.cells #[.int .u64 pr, .int .u64 pw] 35)) (.cells #[.int .u64 dr, .int .u64 dw] 35)
  have HM := Aside0.mk (HM2.out.below hb4)
  have HB := Aside0.mk (below_step HB2.out hb4)
  clear hz hz3 hz4 hb4 HM2 HB2
  generalize (w2.alloc (.cells #[.int .u64 pr, .int .u64 pw] 35)).alloc (.cells #[.int .u64 dr, .int .u64 dw] 35) = w4 at H3 H4 HM HB ⊢
  generalize w2.heap.size + 1 = S4 at H4 ⊢
  generalize w2.heap.size = S3 at H3 ⊢
  refine Reg.region_list [Reg.Is (.pointer (some ⟨S3, 0, none⟩)), Reg.Is (.int .u64 (pr)), Reg.Is (.pointer (some ⟨S3, 1, none⟩)), Reg.Is (.int .u64 (pw)), Reg.Is (.int .u64 (pr + pw)), Reg.Is (.pointer (some ⟨S4, 0, none⟩)), Reg.Is (.int .u64 (dr)), Reg.Is (.int .u64 (pr + pw + dr)), Reg.Is (.pointer (some ⟨S4, 1, none⟩)), Reg.Is (.int .u64 (dw)), Reg.Is (.int .u64 (pr + pw + dr + dw)), Reg.Is (.pointer (some ⟨g, 0, none⟩)), Reg.Is (.int .u64 (mBnd c l)), Reg.Is (.bool (decide (pr + pw + dr + dw ≤ mBnd c l))), Reg.Is (.bool (decide (pr + pw + dr + dw ≤ mBnd c l)))]
      [some 11, some 12, some 13, some 14, some 15, some 16, some 17, some 18, some 19, some 20, some 21, some 22, some 23, some 24, some 2] (by kernel_rfl) (by rfl) (by rfl) (by rfl) rfl ⟨Reg.mono_is _, Reg.mono_is _, Reg.mono_is _, Reg.mono_is _, Reg.mono_is _, Reg.mono_is _, Reg.mono_is _, Reg.mono_is _, Reg.mono_is _, Reg.mono_is _, Reg.mono_is _, Reg.mono_is _, Reg.mono_is _, Reg.mono_is _, Reg.mono_is _, trivial⟩ (Reg.noneOk_of (by rfl)) ⟨?_, ?_, ?_, ?_, ?_, ?_, ?_, ?_, ?_, ?_, ?_, ?_, ?_, ?_, ?_, trivial⟩ ?_
  · intro a w hl   -- 0: slot 11
    have q3 : a.eval (.tmp 3) = .pointer (some ⟨S3, 0, none⟩) := hl.out 3 rfl
    have qc : ∀ x, a.eval (.const x) = x := fun _ => rfl
    refine Reg.does_is (x := .pointer (some ⟨S3, 0, none⟩)) rfl rfl ?_
    clear hl
    generalize a.eval = ρ at *
    go_simp
  · intro a w hl   -- 1: slot 12
    have q11 : a.eval (.tmp 11) = .pointer (some ⟨S3, 0, none⟩) := hl.has 0 rfl
    have qc : ∀ x, a.eval (.const x) = x := fun _ => rfl
    refine Reg.does_is (x := .int .u64 (pr)) rfl rfl ?_
    have hst := blk_below H3.out hl.below
    have k0 := (blk_cell hst 0).trans rfl
    have k1 := (blk_cell hst 1).trans rfl
    clear hl hst
    generalize a.eval = ρ at *
    go_simp
  · intro a w hl   -- 2: slot 13
    have q3 : a.eval (.tmp 3) = .pointer (some ⟨S3, 0, none⟩) := hl.out 3 rfl
    have qc : ∀ x, a.eval (.const x) = x := fun _ => rfl
    refine Reg.does_is (x := .pointer (some ⟨S3, 1, none⟩)) rfl rfl ?_
    clear hl
    generalize a.eval = ρ at *
    go_simp
  · intro a w hl   -- 3: slot 14
    have q13 : a.eval (.tmp 13) = .pointer (some ⟨S3, 1, none⟩) := hl.has 2 rfl
    have qc : ∀ x, a.eval (.const x) = x := fun _ => rfl
    refine Reg.does_is (x := .int .u64 (pw)) rfl rfl ?_
    have hst := blk_below H3.out hl.below
    have k0 := (blk_cell hst 0).trans rfl
    have k1 := (blk_cell hst 1).trans rfl
    clear hl hst
    generalize a.eval = ρ at *
    go_simp
  · intro a w hl   -- 4: slot 15
    have q12 : a.eval (.tmp 12) = .int .u64 (pr) := hl.has 1 rfl
    have q14 : a.eval (.tmp 14) = .int .u64 (pw) := hl.has 3 rfl
    have qc : ∀ x, a.eval (.const x) = x := fun _ => rfl
    refine Reg.does_is (x := .int .u64 (pr + pw)) rfl rfl ?_
    clear hl
    generalize a.eval = ρ at *
    obtain ⟨s1, s2, s3, s4, s5, s6, s7, s8⟩ := HS.out
    go_simp
    exact u64w (by omega) (by omega)
  · intro a w hl   -- 5: slot 16
    have q4 : a.eval (.tmp 4) = .pointer (some ⟨S4, 0, none⟩) := hl.out 4 rfl
    have qc : ∀ x, a.eval (.const x) = x := fun _ => rfl
    refine Reg.does_is (x := .pointer (some ⟨S4, 0, none⟩)) rfl rfl ?_
    clear hl
    generalize a.eval = ρ at *
    go_simp
  · intro a w hl   -- 6: slot 17
    have q16 : a.eval (.tmp 16) = .pointer (some ⟨S4, 0, none⟩) := hl.has 5 rfl
    have qc : ∀ x, a.eval (.const x) = x := fun _ => rfl
    refine Reg.does_is (x := .int .u64 (dr)) rfl rfl ?_
    have hst := blk_below H4.out hl.below
    have k0 := (blk_cell hst 0).trans rfl
    have k1 := (blk_cell hst 1).trans rfl
    clear hl hst
    generalize a.eval = ρ at *
    go_simp
  · intro a w hl   -- 7: slot 18
    have q15 : a.eval (.tmp 15) = .int .u64 (pr + pw) := hl.has 4 rfl
    have q17 : a.eval (.tmp 17) = .int .u64 (dr) := hl.has 6 rfl
    have qc : ∀ x, a.eval (.const x) = x := fun _ => rfl
    refine Reg.does_is (x := .int .u64 (pr + pw + dr)) rfl rfl ?_
    clear hl
    generalize a.eval = ρ at *
    obtain ⟨s1, s2, s3, s4, s5, s6, s7, s8⟩ := HS.out
    go_simp
    exact u64w (by omega) (by omega)
  · intro a w hl   -- 8: slot 19
    have q4 : a.eval (.tmp 4) = .pointer (some ⟨S4, 0, none⟩) := hl.out 4 rfl
    have qc : ∀ x, a.eval (.const x) = x := fun _ => rfl
    refine Reg.does_is (x := .pointer (some ⟨S4, 1, none⟩)) rfl rfl ?_
    clear hl
    generalize a.eval = ρ at *
    go_simp
  · intro a w hl   -- 9: slot 20
    have q19 : a.eval (.tmp 19) = .pointer (some ⟨S4, 1, none⟩) := hl.has 8 rfl
    have qc : ∀ x, a.eval (.const x) = x := fun _ => rfl
    refine Reg.does_is (x := .int .u64 (dw)) rfl rfl ?_
    have hst := blk_below H4.out hl.below
    have k0 := (blk_cell hst 0).trans rfl
    have k1 := (blk_cell hst 1).trans rfl
    clear hl hst
    generalize a.eval = ρ at *
    go_simp
  · intro a w hl   -- 10: slot 21
    have q18 : a.eval (.tmp 18) = .int .u64 (pr + pw + dr) := hl.has 7 rfl
    have q20 : a.eval (.tmp 20) = .int .u64 (dw) := hl.has 9 rfl
    have qc : ∀ x, a.eval (.const x) = x := fun _ => rfl
    refine Reg.does_is (x := .int .u64 (pr + pw + dr + dw)) rfl rfl ?_
    clear hl
    generalize a.eval = ρ at *
    obtain ⟨s1, s2, s3, s4, s5, s6, s7, s8⟩ := HS.out
    go_simp
    exact u64w (by omega) (by omega)
  · intro a w hl   -- 11: slot 22
    have q0 : a.eval (.tmp 0) = .pointer (some ⟨g, 0, none⟩) := hl.out 0 rfl
    have qc : ∀ x, a.eval (.const x) = x := fun _ => rfl
    refine Reg.does_is (x := .pointer (some ⟨g, 0, none⟩)) rfl rfl ?_
    clear hl
    generalize a.eval = ρ at *
    go_simp
  · intro a w hl   -- 12: slot 23
    have q22 : a.eval (.tmp 22) = .pointer (some ⟨g, 0, none⟩) := hl.has 11 rfl
    have qc : ∀ x, a.eval (.const x) = x := fun _ => rfl
    refine Reg.does_call_is (x := .int .u64 (mBnd c l)) #[.pointer (some ⟨g, 0, none⟩)] rfl rfl Try.func12 (by kernel_rfl) rfl rfl (by simp [qc, q22]) ?_
    exact bound_any (HM.out.below hl.below)
  · intro a w hl   -- 13: slot 24
    have q21 : a.eval (.tmp 21) = .int .u64 (pr + pw + dr + dw) := hl.has 10 rfl
    have q23 : a.eval (.tmp 23) = .int .u64 (mBnd c l) := hl.has 12 rfl
    have qc : ∀ x, a.eval (.const x) = x := fun _ => rfl
    refine Reg.does_is (x := .bool (decide (pr + pw + dr + dw ≤ mBnd c l))) rfl rfl ?_
    clear hl
    generalize a.eval = ρ at *
    go_simp
  · intro a w hl   -- 14: slot 2
    have q24 : a.eval (.tmp 24) = .bool (decide (pr + pw + dr + dw ≤ mBnd c l)) := hl.has 13 rfl
    have qc : ∀ x, a.eval (.const x) = x := fun _ => rfl
    refine Reg.does_is (x := .bool (decide (pr + pw + dr + dw ≤ mBnd c l))) rfl rfl ?_
    clear hl
    generalize a.eval = ρ at *
    go_simp
  · rintro v w hb ⟨e11, e12, e13, e14, e15, e16, e17, e18, e19, e20, e21, e22, e23, e24, e2, _⟩
    replace e11 : v 0 = .pointer (some ⟨S3, 0, none⟩) := e11
    replace e12 : v 1 = .int .u64 (pr) := e12
    replace e13 : v 2 = .pointer (some ⟨S3, 1, none⟩) := e13
    replace e14 : v 3 = .int .u64 (pw) := e14
    replace e15 : v 4 = .int .u64 (pr + pw) := e15
    replace e16 : v 5 = .pointer (some ⟨S4, 0, none⟩) := e16
    replace e17 : v 6 = .int .u64 (dr) := e17
    replace e18 : v 7 = .int .u64 (pr + pw + dr) := e18
    replace e19 : v 8 = .pointer (some ⟨S4, 1, none⟩) := e19
    replace e20 : v 9 = .int .u64 (dw) := e20
    replace e21 : v 10 = .int .u64 (pr + pw + dr + dw) := e21
    replace e22 : v 11 = .pointer (some ⟨g, 0, none⟩) := e22
    replace e23 : v 12 = .int .u64 (mBnd c l) := e23
    replace e24 : v 13 = .bool (decide (pr + pw + dr + dw ≤ mBnd c l)) := e24
    replace e2 : v 14 = .bool (decide (pr + pw + dr + dw ≤ mBnd c l)) := e2
    simp only [Reg.putL, Act.put, List.setIfInBounds_toArray, List.set_cons_zero, List.set_cons_succ, e11, e12, e13, e14, e15, e16, e17, e18, e19, e20, e21, e22, e23, e24, e2]
    clear e11 e12 e13 e14 e15 e16 e17 e18 e19 e20 e21 e22 e23 e24 e2
    have HB9 := Aside0.mk (below_step HB.out hb)
    clear hb
    go_wp2_with fail
    go_ret
    exact ⟨by simp, HB9.out⟩
end Go.Proofs.Ytkpdcacfokcpnaa.Q
