/- WireWrites: what the law's call comes to. -/
import Derived.Test.YtfpdapdnmkadeaaWireORef
import Derived.Test.YtfpdapdnmkadeaaWireAwake
namespace Go.Proofs.Ytfpdapdnmkadeaa.Wire
open Go.RowKit Go.Proofs.YtfpdapdnmkadeaaW.PrintWords Go.Proofs.YtfpdapdnmkadeaaW.PrintLast Go.Proofs.YtfpdapdnmkadeaaW.PrintMore
open Go.Proofs.Ytfpdapdnmkadeaa Go.Proofs.Ytfpdapdnmkadeaa.Vals Go.Proofs.Ytfpdapdnmkadeaa.Word Go.Proofs.Ytfpdapdnmkadeaa.Q
open Go.Proofs.Ytfpdapdnmkadeaa.O (S52 k52 z52 rd_T52 at_T52)
set_option linter.unusedVariables false
set_option linter.unusedSimpArgs false

set_option maxHeartbeats 8000000 in
set_option maxRecDepth 100000 in
theorem writes_calls {w : World} (A : Option Addr) (c : Nat) (l : List S52) (hC : Kd.C k52 w A l.length l) (hc : l.length ≤ c) (hl : l.length * 48 ≤ 140737488351232) :
    Calls Try.prog 5 #[.slice A l.length c] w fun e w' => e = .returned (.bool true) ∧ Below w.heap.size w w' := by
  obtain ⟨r, hlc, hr⟩ := light_calls (w := w) A c l hC hc (by omega)
  have HLC := Aside0.mk hlc
  have HRR := Aside0.mk hr
  have HL0 := Aside0.mk hC
  have HC := Aside0.mk hc
  have HLL := Aside0.mk hl
  clear hlc hr hC hc hl
  go_enter Try.func5, Try.ntmps5
  go_wp2_with fail
  refine HLC.out.mono ?_
  rintro en w1 ⟨rfl, hb⟩
  have HB1 := Aside0.mk hb
  have HL1 := Aside0.mk (Kd.C_below HL0.out hb)
  clear hb HLC HL0
  cases r
  · go_wp2_with fail
    refine (awake_calls _).mono ?_
    rintro en w2 ⟨rfl, hb⟩
    have HB2 := Aside0.mk (below_step HB1.out hb)
    clear hb
    go_wp2_with fail
    go_ret
    exact ⟨by simp, HB2.out⟩
  have HLN := Aside0.mk (HRR.out rfl)
  clear HRR
  go_wp2_with fail
  refine (script_calls A c l (by have := HLN.out; omega) _ HL1.out).mono ?_
  rintro en w2 ⟨u, z, rfl, hbad, hgood, hb⟩
  rw [sBad_is] at hbad hgood
  have HL2 := Aside0.mk (Kd.C_below HL1.out hb)
  have HB2 := Aside0.mk (below_step HB1.out hb)
  clear hb HB1 HL1
  by_cases htd : all l
  · obtain ⟨rfl, hR⟩ := hgood (by rw [decide_eq_true htd]; rfl)
    rw [sB_all htd] at hR
    obtain ⟨A5, c5, rfl, hc5, hC5⟩ := Kd.R_reads hR
    have HV2 := Aside0.mk (show Bys (encS l) (.slice A5 (encS l).length c5) w2 from ⟨A5, c5, rfl, hc5, hC5⟩)
    have HLB := Aside0.mk (show (encS l).length ≤ 10000000 by
      have h1 := encS_len htd
      have h2 := HLN.out
      omega)
    have HLE := Aside0.mk (show l.length ≤ 65536 by have := HLN.out; omega)
    have HTD := Aside0.mk htd
    clear hbad hgood hR hc5 hC5 htd
    go_wp2_with fail
    refine (rall_calls A c l HL2.out HC.out (by have := HLN.out; omega)).mono ?_
    rintro en w3 ⟨rfl, hb⟩
    rw [decide_eq_true HTD.out]
    have HB3 := Aside0.mk (below_step HB2.out hb)
    have HL3 := Aside0.mk (Kd.C_below HL2.out hb)
    have HV3 := Aside0.mk (HV2.out.mono hb)
    clear hb HB2 HL2 HV2
    go_wp2_with fail
    refine (ops_calls HV3.out (byte_encS l) (by have := HLB.out; omega)).mono ?_
    rintro en w5 ⟨hen, _, hb⟩
    obtain ⟨vl, hen, hR⟩ := hen l (okO_enc HTD.out HLE.out)
    subst hen
    obtain ⟨A2, c2, rfl, hc2, hC2⟩ := Kd.R_reads hR
    have HB := Aside0.mk (below_step HB3.out hb)
    have HL := Aside0.mk (Kd.C_below HL3.out hb)
    have HV := Aside0.mk (HV3.out.mono hb)
    have HC2 := Aside0.mk hc2
    have HL2 := Aside0.mk hC2
    clear hb HB3 HL3 HV3 hR hc2 hC2
    go_upto_region 7 with fail
    refine Reg.region_list [Reg.Is (.int .i64 0), Reg.Is (.bool true), Reg.Is (.bool true), Reg.Is (.slice A5 (encS l).length c5), Reg.Is (.string (strOfNums (encS l))), Reg.Is (.slice A l.length c), Reg.Is (.string (strOfNums (encS l))), Reg.Is (.bool true), Reg.Is (.bool true), Reg.Is (.bool true), Reg.Is (.int .i64 0), Reg.Is (.bool true), Reg.Is (.bool true), Reg.Is (.bool true), Reg.Is (.slice A2 l.length c2), Reg.Is (.slice A l.length c), Reg.Is (.bool true), Reg.Is (.bool true), Reg.Is (.bool true), Reg.Is (.bool true), Reg.Is (.bool true), Reg.Is (.bool true)]
        [some 34, some 35, some 36, some 37, some 38, some 39, some 40, some 41, some 42, some 43, some 44, some 45, some 46, some 47, some 48, some 49, some 50, some 51, some 52, some 53, some 54, some 2] (by kernel_rfl) (by rfl) (by rfl) (by rfl) rfl ⟨Reg.mono_is _, Reg.mono_is _, Reg.mono_is _, Reg.mono_is _, Reg.mono_is _, Reg.mono_is _, Reg.mono_is _, Reg.mono_is _, Reg.mono_is _, Reg.mono_is _, Reg.mono_is _, Reg.mono_is _, Reg.mono_is _, Reg.mono_is _, Reg.mono_is _, Reg.mono_is _, Reg.mono_is _, Reg.mono_is _, Reg.mono_is _, Reg.mono_is _, Reg.mono_is _, Reg.mono_is _, trivial⟩ (Reg.noneOk_of (by rfl)) ⟨?_, ?_, ?_, ?_, ?_, ?_, ?_, ?_, ?_, ?_, ?_, ?_, ?_, ?_, ?_, ?_, ?_, ?_, ?_, ?_, ?_, ?_, trivial⟩ ?_
    · intro a w hl   -- 0: slot 34
      have q4 : a.eval (.tmp 4) = .int .i64 0 := hl.out 4 rfl
      have qc : ∀ x, a.eval (.const x) = x := fun _ => rfl
      refine Reg.does_is (x := .int .i64 0) rfl rfl ?_
      clear hl
      generalize a.eval = ρ at *
      go_simp
    · intro a w hl   -- 1: slot 35
      have q34 : a.eval (.tmp 34) = .int .i64 0 := hl.has 0 rfl
      have qc : ∀ x, a.eval (.const x) = x := fun _ => rfl
      refine Reg.does_is (x := .bool true) rfl rfl ?_
      clear hl
      generalize a.eval = ρ at *
      go_simp
    · intro a w hl   -- 2: slot 36
      have q35 : a.eval (.tmp 35) = .bool true := hl.has 1 rfl
      have qc : ∀ x, a.eval (.const x) = x := fun _ => rfl
      refine Reg.does_is (x := .bool true) rfl rfl ?_
      clear hl
      generalize a.eval = ρ at *
      go_simp
    · intro a w hl   -- 3: slot 37
      have q3 : a.eval (.tmp 3) = .slice A5 (encS l).length c5 := hl.out 3 rfl
      have q36 : a.eval (.tmp 36) = .bool true := hl.has 2 rfl
      have qc : ∀ x, a.eval (.const x) = x := fun _ => rfl
      refine Reg.does_is (x := .slice A5 (encS l).length c5) rfl (Reg.wanted_of rfl rfl (hl.yields 2 rfl rfl q36)) ?_
      clear hl
      generalize a.eval = ρ at *
      go_simp
    · intro a w hl   -- 4: slot 38
      have q37 : a.eval (.tmp 37) = .slice A5 (encS l).length c5 := hl.has 3 rfl
      have q36 : a.eval (.tmp 36) = .bool true := hl.has 2 rfl
      have qc : ∀ x, a.eval (.const x) = x := fun _ => rfl
      refine Reg.does_is (x := .string (strOfNums (encS l))) rfl (Reg.wanted_of rfl rfl (hl.yields 2 rfl rfl q36)) ?_
      have hs := run_str (HV.out.mono hl.below)
      clear hl
      generalize a.eval = ρ at *
      go_simp
    · intro a w hl   -- 5: slot 39
      have q0 : a.eval (.tmp 0) = .slice A l.length c := hl.out 0 rfl
      have q36 : a.eval (.tmp 36) = .bool true := hl.has 2 rfl
      have qc : ∀ x, a.eval (.const x) = x := fun _ => rfl
      refine Reg.does_is (x := .slice A l.length c) rfl (Reg.wanted_of rfl rfl (hl.yields 2 rfl rfl q36)) ?_
      clear hl
      generalize a.eval = ρ at *
      go_simp
    · intro a w hl   -- 6: slot 40
      have q39 : a.eval (.tmp 39) = .slice A l.length c := hl.has 5 rfl
      have q36 : a.eval (.tmp 36) = .bool true := hl.has 2 rfl
      have qc : ∀ x, a.eval (.const x) = x := fun _ => rfl
      refine Reg.does_call_is (x := .string (strOfNums (encS l))) #[.slice A l.length c] rfl (Reg.wanted_of rfl rfl (hl.yields 2 rfl rfl q36)) Try.func19 (by kernel_rfl) rfl rfl (by simp [qc, q39]) ?_
      exact rscript_calls A c HTD.out (Kd.C_below HL.out hl.below) HC.out (by have := HLB.out; omega) HLE.out
    · intro a w hl   -- 7: slot 41
      have q38 : a.eval (.tmp 38) = .string (strOfNums (encS l)) := hl.has 4 rfl
      have q40 : a.eval (.tmp 40) = .string (strOfNums (encS l)) := hl.has 6 rfl
      have q36 : a.eval (.tmp 36) = .bool true := hl.has 2 rfl
      have qc : ∀ x, a.eval (.const x) = x := fun _ => rfl
      refine Reg.does_is (x := .bool true) rfl (Reg.wanted_of rfl rfl (hl.yields 2 rfl rfl q36)) ?_
      clear hl
      generalize a.eval = ρ at *
      go_simp
    · intro a w hl   -- 8: slot 42
      have q36 : a.eval (.tmp 36) = .bool true := hl.has 2 rfl
      have q41 : a.eval (.tmp 41) = .bool true := hl.has 7 rfl
      have qc : ∀ x, a.eval (.const x) = x := fun _ => rfl
      refine Reg.does_is (x := .bool true) rfl rfl ?_
      clear hl
      generalize a.eval = ρ at *
      go_simp
    · intro a w hl   -- 9: slot 43
      have q42 : a.eval (.tmp 42) = .bool true := hl.has 8 rfl
      have qc : ∀ x, a.eval (.const x) = x := fun _ => rfl
      refine Reg.does_is (x := .bool true) rfl rfl ?_
      clear hl
      generalize a.eval = ρ at *
      go_simp
    · intro a w hl   -- 10: slot 44
      have q6 : a.eval (.tmp 6) = .int .i64 0 := hl.out 6 rfl
      have q43 : a.eval (.tmp 43) = .bool true := hl.has 9 rfl
      have qc : ∀ x, a.eval (.const x) = x := fun _ => rfl
      refine Reg.does_is (x := .int .i64 0) rfl (Reg.wanted_of rfl rfl (hl.yields 9 rfl rfl q43)) ?_
      clear hl
      generalize a.eval = ρ at *
      go_simp
    · intro a w hl   -- 11: slot 45
      have q44 : a.eval (.tmp 44) = .int .i64 0 := hl.has 10 rfl
      have q43 : a.eval (.tmp 43) = .bool true := hl.has 9 rfl
      have qc : ∀ x, a.eval (.const x) = x := fun _ => rfl
      refine Reg.does_is (x := .bool true) rfl (Reg.wanted_of rfl rfl (hl.yields 9 rfl rfl q43)) ?_
      clear hl
      generalize a.eval = ρ at *
      go_simp
    · intro a w hl   -- 12: slot 46
      have q43 : a.eval (.tmp 43) = .bool true := hl.has 9 rfl
      have q45 : a.eval (.tmp 45) = .bool true := hl.has 11 rfl
      have qc : ∀ x, a.eval (.const x) = x := fun _ => rfl
      refine Reg.does_is (x := .bool true) rfl rfl ?_
      clear hl
      generalize a.eval = ρ at *
      go_simp
    · intro a w hl   -- 13: slot 47
      have q46 : a.eval (.tmp 46) = .bool true := hl.has 12 rfl
      have qc : ∀ x, a.eval (.const x) = x := fun _ => rfl
      refine Reg.does_is (x := .bool true) rfl rfl ?_
      clear hl
      generalize a.eval = ρ at *
      go_simp
    · intro a w hl   -- 14: slot 48
      have q5 : a.eval (.tmp 5) = .slice A2 l.length c2 := hl.out 5 rfl
      have q47 : a.eval (.tmp 47) = .bool true := hl.has 13 rfl
      have qc : ∀ x, a.eval (.const x) = x := fun _ => rfl
      refine Reg.does_is (x := .slice A2 l.length c2) rfl (Reg.wanted_of rfl rfl (hl.yields 13 rfl rfl q47)) ?_
      clear hl
      generalize a.eval = ρ at *
      go_simp
    · intro a w hl   -- 15: slot 49
      have q0 : a.eval (.tmp 0) = .slice A l.length c := hl.out 0 rfl
      have q47 : a.eval (.tmp 47) = .bool true := hl.has 13 rfl
      have qc : ∀ x, a.eval (.const x) = x := fun _ => rfl
      refine Reg.does_is (x := .slice A l.length c) rfl (Reg.wanted_of rfl rfl (hl.yields 13 rfl rfl q47)) ?_
      clear hl
      generalize a.eval = ρ at *
      go_simp
    · intro a w hl   -- 16: slot 50
      have q48 : a.eval (.tmp 48) = .slice A2 l.length c2 := hl.has 14 rfl
      have q49 : a.eval (.tmp 49) = .slice A l.length c := hl.has 15 rfl
      have q47 : a.eval (.tmp 47) = .bool true := hl.has 13 rfl
      have qc : ∀ x, a.eval (.const x) = x := fun _ => rfl
      refine Reg.does_call_is (x := .bool true) #[.slice A2 l.length c2, .slice A l.length c] rfl (Reg.wanted_of rfl rfl (hl.yields 13 rfl rfl q47)) Try.func20 (by kernel_rfl) rfl rfl (by simp [qc, q48, q49]) ?_
      exact same_calls A2 A c2 c l (Kd.C_below HL2.out hl.below) HC2.out (Kd.C_below HL.out hl.below) HC.out (by have := HLE.out; omega)
    · intro a w hl   -- 17: slot 51
      have q47 : a.eval (.tmp 47) = .bool true := hl.has 13 rfl
      have q50 : a.eval (.tmp 50) = .bool true := hl.has 16 rfl
      have qc : ∀ x, a.eval (.const x) = x := fun _ => rfl
      refine Reg.does_is (x := .bool true) rfl rfl ?_
      clear hl
      generalize a.eval = ρ at *
      go_simp
    · intro a w hl   -- 18: slot 52
      have q51 : a.eval (.tmp 51) = .bool true := hl.has 17 rfl
      have qc : ∀ x, a.eval (.const x) = x := fun _ => rfl
      refine Reg.does_is (x := .bool true) rfl rfl ?_
      clear hl
      generalize a.eval = ρ at *
      go_simp
    · intro a w hl   -- 19: slot 53
      have q52 : a.eval (.tmp 52) = .bool true := hl.has 18 rfl
      have qc : ∀ x, a.eval (.const x) = x := fun _ => rfl
      refine Reg.does_call_is (x := .bool true) #[] rfl (Reg.wanted_of rfl rfl (hl.yields 18 rfl rfl q52)) Try.func8 (by kernel_rfl) rfl rfl (by simp [qc]) ?_
      exact awake_calls w
    · intro a w hl   -- 20: slot 54
      have q52 : a.eval (.tmp 52) = .bool true := hl.has 18 rfl
      have q53 : a.eval (.tmp 53) = .bool true := hl.has 19 rfl
      have qc : ∀ x, a.eval (.const x) = x := fun _ => rfl
      refine Reg.does_is (x := .bool true) rfl rfl ?_
      clear hl
      generalize a.eval = ρ at *
      go_simp
    · intro a w hl   -- 21: slot 2
      have q54 : a.eval (.tmp 54) = .bool true := hl.has 20 rfl
      have qc : ∀ x, a.eval (.const x) = x := fun _ => rfl
      refine Reg.does_is (x := .bool true) rfl rfl ?_
      clear hl
      generalize a.eval = ρ at *
      go_simp
    · rintro v w hb ⟨e34, e35, e36, e37, e38, e39, e40, e41, e42, e43, e44, e45, e46, e47, e48, e49, e50, e51, e52, e53, e54, e2, _⟩
      replace e34 : v 0 = .int .i64 0 := e34
      replace e35 : v 1 = .bool true := e35
      replace e36 : v 2 = .bool true := e36
      replace e37 : v 3 = .slice A5 (encS l).length c5 := e37
      replace e38 : v 4 = .string (strOfNums (encS l)) := e38
      replace e39 : v 5 = .slice A l.length c := e39
      replace e40 : v 6 = .string (strOfNums (encS l)) := e40
      replace e41 : v 7 = .bool true := e41
      replace e42 : v 8 = .bool true := e42
      replace e43 : v 9 = .bool true := e43
      replace e44 : v 10 = .int .i64 0 := e44
      replace e45 : v 11 = .bool true := e45
      replace e46 : v 12 = .bool true := e46
      replace e47 : v 13 = .bool true := e47
      replace e48 : v 14 = .slice A2 l.length c2 := e48
      replace e49 : v 15 = .slice A l.length c := e49
      replace e50 : v 16 = .bool true := e50
      replace e51 : v 17 = .bool true := e51
      replace e52 : v 18 = .bool true := e52
      replace e53 : v 19 = .bool true := e53
      replace e54 : v 20 = .bool true := e54
      replace e2 : v 21 = .bool true := e2
      simp only [Reg.putL, Act.put, List.setIfInBounds_toArray, List.set_cons_zero, List.set_cons_succ, e34, e35, e36, e37, e38, e39, e40, e41, e42, e43, e44, e45, e46, e47, e48, e49, e50, e51, e52, e53, e54, e2]
      clear e34 e35 e36 e37 e38 e39 e40 e41 e42 e43 e44 e45 e46 e47 e48 e49 e50 e51 e52 e53 e54 e2
      have HB9 := Aside0.mk (below_step HB.out hb)
      clear hb
      go_wp2_with fail
      go_ret
      exact ⟨by simp, HB9.out⟩
  · obtain ⟨rfl, rfl⟩ := hbad (by rw [decide_eq_false htd]; rfl)
    have HTD := Aside0.mk htd
    clear hbad hgood htd
    go_wp2_with fail
    refine (rall_calls A c l HL2.out HC.out (by have := HLN.out; omega)).mono ?_
    rintro en w3 ⟨rfl, hb⟩
    rw [decide_eq_false HTD.out]
    have HB3 := Aside0.mk (below_step HB2.out hb)
    clear hb HB2 HL2
    go_wp2_with fail
    refine (awake_calls _).mono ?_
    rintro en w5 ⟨rfl, hb⟩
    have HB5 := Aside0.mk (below_step HB3.out hb)
    clear hb
    go_wp2_with fail
    go_ret
    exact ⟨by simp, HB5.out⟩
end Go.Proofs.Ytfpdapdnmkadeaa.Wire
