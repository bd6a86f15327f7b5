/- WireTold: what the law's call comes to. -/
import Derived.Test.YtfpdapdnmkadeaaWireRef
import Derived.Test.YtfpdapdnmkadeaaWireAwake
namespace Go.Proofs.Ytfpdapdnmkadeaa.Wire
open Go.RowKit Go.Proofs.YtfpdapdnmkadeaaW.PrintWords Go.Proofs.YtfpdapdnmkadeaaW.PrintLast Go.Proofs.YtfpdapdnmkadeaaW.PrintMore
open Go.Proofs.Ytfpdapdnmkadeaa Go.Proofs.Ytfpdapdnmkadeaa.Vals Go.Proofs.Ytfpdapdnmkadeaa.Word Go.Proofs.Ytfpdapdnmkadeaa.Q
set_option linter.unusedVariables false
set_option linter.unusedSimpArgs false

theorem told_long {w : World} (A : Option Addr) (c : Nat) {b : List Int} (h2 : 20000 < b.length) : Calls Try.prog 4 #[.slice A b.length c] w fun e w' => e = .returned (.bool true) ∧ Below w.heap.size w w' := by
  have g1 : decide ((20000 : Int) < (b.length : Int)) = true := decide_eq_true (by omega)
  have g2 : decide (20000 < b.length) = true := decide_eq_true h2
  clear h2
  go_enter Try.func4, Try.ntmps4
  go_wp2_with fail
  refine (awake_calls _).mono ?_
  rintro en w1 ⟨rfl, hb⟩
  have HB := Aside0.mk hb
  clear hb
  go_wp2_with fail
  go_ret
  exact ⟨by simp, HB.out⟩

set_option maxHeartbeats 4000000 in
theorem told_no {w : World} (A : Option Addr) (c : Nat) {b : List Int} (h : Bys b (.slice A b.length c) w) (hby : Byte b) (h2 : b.length ≤ 20000) (hno : ¬ okA b) : Calls Try.prog 4 #[.slice A b.length c] w fun e w' => e = .returned (.bool true) ∧ Below w.heap.size w w' := by
  have g1 : decide ((20000 : Int) < (b.length : Int)) = false := decide_eq_false (by omega)
  have g2 : decide (20000 < b.length) = false := decide_eq_false (by omega)
  have HT := Aside0.mk (told_calls h hby (by omega))
  have HNO := Aside0.mk hno
  clear h h2 hby hno
  go_enter Try.func4, Try.ntmps4
  go_wp2_with fail
  refine HT.out.mono ?_
  rintro en w1 ⟨_, hen, hb⟩
  have hen := hen HNO.out
  unfold noAns at hen
  subst hen
  have HB1 := Aside0.mk hb
  clear hb HT g1 g2
  go_upto_region 4 with fail
  have HZ := Aside0.mk (blk_new w1 (.cells #[.int .i64 0, .string ⟨#[]⟩, .slice none 0 0] 25))
  have HB2 := Aside0.mk (below_alloc HB1.out (.cells #[.int .i64 0, .string ⟨#[]⟩, .slice none 0 0] 25))
  clear HB1
  generalize w1.alloc (.cells #[.int .i64 0, .string ⟨#[]⟩, .slice none 0 0] 25) = w2 at HZ HB2 ⊢
  generalize w1.heap.size = T at HZ ⊢
  have k0 := (blk_cell HZ.out 0).trans rfl
  have k1 := (blk_cell HZ.out 1).trans rfl
  have k2 := (blk_cell HZ.out 2).trans rfl
  go_wp2_with fail
  clear k0 k1 k2
  refine (as_calls 0 ⟨#[]⟩ none 0 0 w2).mono ?_
  rintro en w3 ⟨rfl, hb⟩
  have HB3 := Aside0.mk (below_step HB2.out hb)
  clear hb HB2 HZ
  go_wp2_with fail
  refine (rsame_calls 0 ⟨#[]⟩ none none 0 0 [] (Kd.C_nil _ _) (by simp) (Kd.C_nil _ _) (by simp) (by simp)).mono ?_
  rintro en w4 ⟨rfl, hb⟩
  have HB4 := Aside0.mk (below_step HB3.out hb)
  clear hb HB3
  go_wp2_with fail
  refine (awake_calls _).mono ?_
  rintro en w5 ⟨rfl, hb⟩
  have HB5 := Aside0.mk (below_step HB4.out hb)
  clear hb
  go_wp2_with fail
  go_ret
  exact ⟨by simp, HB5.out⟩

set_option maxHeartbeats 4000000 in
set_option maxRecDepth 100000 in
theorem told_yes {w : World} (A : Option Addr) (c : Nat) {b : List Int} (h : Bys b (.slice A b.length c) w) (hby : Byte b) (h2 : b.length ≤ 20000) (hok : okA b) : Calls Try.prog 4 #[.slice A b.length c] w fun e w' => e = .returned (.bool true) ∧ Below w.heap.size w w' := by
  have g1 : decide ((20000 : Int) < (b.length : Int)) = false := decide_eq_false (by omega)
  have g2 : decide (20000 < b.length) = false := decide_eq_false (by omega)
  have HT := Aside0.mk (told_calls h hby (by omega))
  have HOK := Aside0.mk hok
  have HLB := Aside0.mk h2
  have hbk := okA_back hby hok
  have HV0 := Aside0.mk h
  obtain ⟨E, hE⟩ : ∃ E, (rA b).E = E := ⟨_, rfl⟩
  obtain ⟨s, hs⟩ : ∃ s, (rA b).s = s := ⟨_, rfl⟩
  obtain ⟨l, hl⟩ : ∃ l, (rA b).l = l := ⟨_, rfl⟩
  rw [hE, hs, hl] at hbk
  have HEQ := Aside0.mk (And.intro hE (And.intro hs hl))
  have HTD := Aside0.mk hbk.1
  have HENC := Aside0.mk hbk.2.1
  have HLE := Aside0.mk hbk.2.2
  clear h h2 hby hok hE hs hl hbk
  go_enter Try.func4, Try.ntmps4
  go_wp2_with fail
  refine HT.out.mono ?_
  rintro en w1 ⟨hen, _, hb⟩
  obtain ⟨vl, hen, hR⟩ := hen HOK.out
  rw [HEQ.out.1, HEQ.out.2.1] at hen
  rw [HEQ.out.2.2] at hR
  subst hen
  obtain ⟨A2, c2, rfl, hc2, hC2⟩ := Kd.R_reads hR
  have HB1 := Aside0.mk hb
  have HC := Aside0.mk hc2
  have HL1 := Aside0.mk hC2
  have HV1 := Aside0.mk (HV0.out.mono hb)
  clear hb HT g1 g2 hR hc2 hC2 HV0
  go_upto_region 4 with fail
  have HT := Aside0.mk (blk_new w1 (.cells #[.int .i64 E, .string s, .slice A2 l.length c2] 25))
  have HB := Aside0.mk (below_alloc HB1.out (.cells #[.int .i64 E, .string s, .slice A2 l.length c2] 25))
  have HL := Aside0.mk (Kd.C_below HL1.out (below_alloc (Below.refl w1.heap.size w1) (.cells #[.int .i64 E, .string s, .slice A2 l.length c2] 25)))
  have HV := Aside0.mk (HV1.out.mono (below_alloc (Below.refl w1.heap.size w1) (.cells #[.int .i64 E, .string s, .slice A2 l.length c2] 25)))
  clear HB1 HL1 HV1
  generalize w1.alloc (.cells #[.int .i64 E, .string s, .slice A2 l.length c2] 25) = w2 at HT HB HL HV ⊢
  generalize w1.heap.size = T at HT ⊢
  go_upto_region 6 with fail
  refine Reg.region_list [Reg.Is (.agg #[.int .i64 E, .string s, .slice A2 l.length c2]), Reg.Is (.agg #[.int .i64 E, .string s, .slice A2 l.length c2]), Reg.Is (.bool true), Reg.Is (.bool true), Reg.Is (.agg #[.int .i64 E, .string s, .slice A2 l.length c2]), Reg.Is (.agg #[.int .i64 E, .string s, .slice A2 l.length c2]), Reg.Is (.string (strOfNums b)), Reg.Is (.slice A b.length c), Reg.Is (.string (strOfNums b)), Reg.Is (.bool true), Reg.Is (.bool true), Reg.Is (.bool true), Reg.Is (.bool true), Reg.Is (.bool true), Reg.Is (.bool true)]
      [some 27, some 28, some 29, some 30, some 31, some 32, some 33, some 34, some 35, some 36, some 37, some 38, some 39, some 40, some 2] (by kernel_rfl) (by rfl) (by rfl) (by rfl) rfl ⟨Reg.mono_is _, Reg.mono_is _, Reg.mono_is _, Reg.mono_is _, Reg.mono_is _, Reg.mono_is _, Reg.mono_is _, Reg.mono_is _, Reg.mono_is _, Reg.mono_is _, Reg.mono_is _, Reg.mono_is _, Reg.mono_is _, Reg.mono_is _, Reg.mono_is _, trivial⟩ (Reg.noneOk_of (by rfl)) ⟨?_, ?_, ?_, ?_, ?_, ?_, ?_, ?_, ?_, ?_, ?_, ?_, ?_, ?_, ?_, trivial⟩ ?_
  · intro a w hl   -- 0: slot 27
    have q3 : a.eval (.tmp 3) = .pointer (some ⟨T, 0, none⟩) := hl.out 3 rfl
    have qc : ∀ x, a.eval (.const x) = x := fun _ => rfl
    refine Reg.does_is (x := .agg #[.int .i64 E, .string s, .slice A2 l.length c2]) rfl rfl ?_
    have ht := blk_below HT.out hl.below
    have k0 := (blk_cell ht 0).trans rfl
    have k1 := (blk_cell ht 1).trans rfl
    have k2 := (blk_cell ht 2).trans rfl
    clear hl ht
    generalize a.eval = ρ at *
    go_simp
  · intro a w hl   -- 1: slot 28
    have q27 : a.eval (.tmp 27) = .agg #[.int .i64 E, .string s, .slice A2 l.length c2] := hl.has 0 rfl
    have qc : ∀ x, a.eval (.const x) = x := fun _ => rfl
    refine Reg.does_call_is (x := .agg #[.int .i64 E, .string s, .slice A2 l.length c2]) #[.agg #[.int .i64 E, .string s, .slice A2 l.length c2]] rfl rfl Try.func11 (by kernel_rfl) rfl rfl (by simp [qc, q27]) ?_
    exact as_calls E s A2 l.length c2 w
  · intro a w hl   -- 2: slot 29
    have q28 : a.eval (.tmp 28) = .agg #[.int .i64 E, .string s, .slice A2 l.length c2] := hl.has 1 rfl
    have qc : ∀ x, a.eval (.const x) = x := fun _ => rfl
    refine Reg.does_call_is (x := .bool true) #[.agg #[.int .i64 E, .string s, .slice A2 l.length c2]] rfl rfl Try.func10 (by kernel_rfl) rfl rfl (by simp [qc, q28]) ?_
    have h1 := rtold_calls E s A2 c2 l (Kd.C_below HL.out hl.below) HC.out (by have := HLE.out; omega)
    rw [decide_eq_true HTD.out] at h1
    exact h1
  · intro a w hl   -- 3: slot 30
    have q29 : a.eval (.tmp 29) = .bool true := hl.has 2 rfl
    have qc : ∀ x, a.eval (.const x) = x := fun _ => rfl
    refine Reg.does_is (x := .bool true) rfl rfl ?_
    clear hl
    generalize a.eval = ρ at *
    go_simp
  · intro a w hl   -- 4: slot 31
    have q3 : a.eval (.tmp 3) = .pointer (some ⟨T, 0, none⟩) := hl.out 3 rfl
    have q30 : a.eval (.tmp 30) = .bool true := hl.has 3 rfl
    have qc : ∀ x, a.eval (.const x) = x := fun _ => rfl
    refine Reg.does_is (x := .agg #[.int .i64 E, .string s, .slice A2 l.length c2]) rfl (Reg.wanted_of rfl rfl (hl.yields 3 rfl rfl q30)) ?_
    have ht := blk_below HT.out hl.below
    have k0 := (blk_cell ht 0).trans rfl
    have k1 := (blk_cell ht 1).trans rfl
    have k2 := (blk_cell ht 2).trans rfl
    clear hl ht
    generalize a.eval = ρ at *
    go_simp
  · intro a w hl   -- 5: slot 32
    have q31 : a.eval (.tmp 31) = .agg #[.int .i64 E, .string s, .slice A2 l.length c2] := hl.has 4 rfl
    have q30 : a.eval (.tmp 30) = .bool true := hl.has 3 rfl
    have qc : ∀ x, a.eval (.const x) = x := fun _ => rfl
    refine Reg.does_call_is (x := .agg #[.int .i64 E, .string s, .slice A2 l.length c2]) #[.agg #[.int .i64 E, .string s, .slice A2 l.length c2]] rfl (Reg.wanted_of rfl rfl (hl.yields 3 rfl rfl q30)) Try.func11 (by kernel_rfl) rfl rfl (by simp [qc, q31]) ?_
    exact as_calls E s A2 l.length c2 w
  · intro a w hl   -- 6: slot 33
    have q32 : a.eval (.tmp 32) = .agg #[.int .i64 E, .string s, .slice A2 l.length c2] := hl.has 5 rfl
    have q30 : a.eval (.tmp 30) = .bool true := hl.has 3 rfl
    have qc : ∀ x, a.eval (.const x) = x := fun _ => rfl
    refine Reg.does_call_is (x := .string (strOfNums b)) #[.agg #[.int .i64 E, .string s, .slice A2 l.length c2]] rfl (Reg.wanted_of rfl rfl (hl.yields 3 rfl rfl q30)) Try.func13 (by kernel_rfl) rfl rfl (by simp [qc, q32]) ?_
    have h1 := ranswer_calls A2 c2 HTD.out (Kd.C_below HL.out hl.below) HC.out (by rw [HENC.out]; have := HLB.out; omega) HLE.out
    rw [HENC.out] at h1
    exact h1
  · intro a w hl   -- 7: slot 34
    have q0 : a.eval (.tmp 0) = .slice A b.length c := hl.out 0 rfl
    have q30 : a.eval (.tmp 30) = .bool true := hl.has 3 rfl
    have qc : ∀ x, a.eval (.const x) = x := fun _ => rfl
    refine Reg.does_is (x := .slice A b.length c) rfl (Reg.wanted_of rfl rfl (hl.yields 3 rfl rfl q30)) ?_
    clear hl
    generalize a.eval = ρ at *
    go_simp
  · intro a w hl   -- 8: slot 35
    have q34 : a.eval (.tmp 34) = .slice A b.length c := hl.has 7 rfl
    have q30 : a.eval (.tmp 30) = .bool true := hl.has 3 rfl
    have qc : ∀ x, a.eval (.const x) = x := fun _ => rfl
    refine Reg.does_is (x := .string (strOfNums b)) rfl (Reg.wanted_of rfl rfl (hl.yields 3 rfl rfl q30)) ?_
    have hs := run_str (HV.out.mono hl.below)
    clear hl
    generalize a.eval = ρ at *
    go_simp
  · intro a w hl   -- 9: slot 36
    have q33 : a.eval (.tmp 33) = .string (strOfNums b) := hl.has 6 rfl
    have q35 : a.eval (.tmp 35) = .string (strOfNums b) := hl.has 8 rfl
    have q30 : a.eval (.tmp 30) = .bool true := hl.has 3 rfl
    have qc : ∀ x, a.eval (.const x) = x := fun _ => rfl
    refine Reg.does_is (x := .bool true) rfl (Reg.wanted_of rfl rfl (hl.yields 3 rfl rfl q30)) ?_
    clear hl
    generalize a.eval = ρ at *
    go_simp
  · intro a w hl   -- 10: slot 37
    have q30 : a.eval (.tmp 30) = .bool true := hl.has 3 rfl
    have q36 : a.eval (.tmp 36) = .bool true := hl.has 9 rfl
    have qc : ∀ x, a.eval (.const x) = x := fun _ => rfl
    refine Reg.does_is (x := .bool true) rfl rfl ?_
    clear hl
    generalize a.eval = ρ at *
    go_simp
  · intro a w hl   -- 11: slot 38
    have q37 : a.eval (.tmp 37) = .bool true := hl.has 10 rfl
    have qc : ∀ x, a.eval (.const x) = x := fun _ => rfl
    refine Reg.does_is (x := .bool true) rfl rfl ?_
    clear hl
    generalize a.eval = ρ at *
    go_simp
  · intro a w hl   -- 12: slot 39
    have q38 : a.eval (.tmp 38) = .bool true := hl.has 11 rfl
    have qc : ∀ x, a.eval (.const x) = x := fun _ => rfl
    refine Reg.does_call_is (x := .bool true) #[] rfl (Reg.wanted_of rfl rfl (hl.yields 11 rfl rfl q38)) Try.func8 (by kernel_rfl) rfl rfl (by simp [qc]) ?_
    exact awake_calls w
  · intro a w hl   -- 13: slot 40
    have q38 : a.eval (.tmp 38) = .bool true := hl.has 11 rfl
    have q39 : a.eval (.tmp 39) = .bool true := hl.has 12 rfl
    have qc : ∀ x, a.eval (.const x) = x := fun _ => rfl
    refine Reg.does_is (x := .bool true) rfl rfl ?_
    clear hl
    generalize a.eval = ρ at *
    go_simp
  · intro a w hl   -- 14: slot 2
    have q40 : a.eval (.tmp 40) = .bool true := hl.has 13 rfl
    have qc : ∀ x, a.eval (.const x) = x := fun _ => rfl
    refine Reg.does_is (x := .bool true) rfl rfl ?_
    clear hl
    generalize a.eval = ρ at *
    go_simp
  · rintro v w hb ⟨e27, e28, e29, e30, e31, e32, e33, e34, e35, e36, e37, e38, e39, e40, e2, _⟩
    replace e27 : v 0 = .agg #[.int .i64 E, .string s, .slice A2 l.length c2] := e27
    replace e28 : v 1 = .agg #[.int .i64 E, .string s, .slice A2 l.length c2] := e28
    replace e29 : v 2 = .bool true := e29
    replace e30 : v 3 = .bool true := e30
    replace e31 : v 4 = .agg #[.int .i64 E, .string s, .slice A2 l.length c2] := e31
    replace e32 : v 5 = .agg #[.int .i64 E, .string s, .slice A2 l.length c2] := e32
    replace e33 : v 6 = .string (strOfNums b) := e33
    replace e34 : v 7 = .slice A b.length c := e34
    replace e35 : v 8 = .string (strOfNums b) := e35
    replace e36 : v 9 = .bool true := e36
    replace e37 : v 10 = .bool true := e37
    replace e38 : v 11 = .bool true := e38
    replace e39 : v 12 = .bool true := e39
    replace e40 : v 13 = .bool true := e40
    replace e2 : v 14 = .bool true := e2
    simp only [Reg.putL, Act.put, List.setIfInBounds_toArray, List.set_cons_zero, List.set_cons_succ, e27, e28, e29, e30, e31, e32, e33, e34, e35, e36, e37, e38, e39, e40, e2]
    clear e27 e28 e29 e30 e31 e32 e33 e34 e35 e36 e37 e38 e39 e40 e2
    have HB9 := Aside0.mk (below_step HB.out hb)
    clear hb
    go_wp2_with fail
    go_ret
    exact ⟨by simp, HB9.out⟩

theorem wtold_calls {w : World} (A : Option Addr) (c : Nat) {b : List Int} (h : Bys b (.slice A b.length c) w) (hby : Byte b) : Calls Try.prog 4 #[.slice A b.length c] w fun e w' => e = .returned (.bool true) ∧ Below w.heap.size w w' := by
  by_cases h2 : 20000 < b.length
  · exact told_long A c h2
  · by_cases hok : okA b
    · exact told_yes A c h hby (by omega) hok
    · exact told_no A c h hby (by omega) hok
end Go.Proofs.Ytfpdapdnmkadeaa.Wire
