/- CheckParts: in whatever parts bytes come their sum is the same: what the law's call comes to. -/
import Derived.Test.YtnoanllncohkdaaFns
import Derived.Test.YtnoanllncohkdaaHAwake
import Derived.Test.YtnoanllncohkdaaReg
import Derived.Test.YtnoanllncohkdaaVals
namespace Go.Proofs.Ytnoanllncohkdaa.Q
open Go.RowKit Go.Proofs.YtnoanllncohkdaaW.PrintWords Go.Proofs.YtnoanllncohkdaaW.PrintLast Go.Proofs.YtnoanllncohkdaaW.PrintMore
open Go.Proofs.Ytnoanllncohkdaa.Math Go.Proofs.Ytnoanllncohkdaa.Vals Go.Proofs.Ytnoanllncohkdaa
set_option linter.unusedVariables false
set_option linter.unusedSimpArgs false

theorem sum_calls (l : List (List Int)) {A : Option Addr} {c : Nat} {w : World} (hc : l.length ≤ c) (hC : Kd.C (Kd.slice 5 (Kd.int .u8)) w A l.length l) (hn : l.length ≤ 140737488351232) (hb : Bys l) :
    Calls Try.prog 9 #[.slice A l.length c] w fun e w' => e = .returned (.int .u32 (M 1 l.flatten)) ∧ Below w.heap.size w w' :=
  (check_Sum.calls _ A c l _ w hC hc (sum_is l hn hb (l.length + l.flatten.length + 1) (by omega))).mono fun e w' ⟨he, hd⟩ => ⟨he, hd.below⟩
theorem more_calls (x : Int) (l : List Int) {A : Option Addr} {c : Nat} {w : World} (hC : Kd.C (Kd.int .u8) w A l.length l) (hc : l.length ≤ c) (hx : 0 ≤ x ∧ x < 4294967296) (hb : By l) (hn : l.length ≤ 140737488351232) :
    Calls Try.prog 11 #[.int .u32 x, .slice A l.length c] w fun e w' => e = .returned (.int .u32 (M x l)) ∧ Below w.heap.size w w' :=
  (check_More.calls _ x A c l _ w hC hc (more_is x l hx.1 hx.2 hb hn (l.length + 1) (by omega))).mono fun e w' ⟨he, hd⟩ => ⟨he, hd.below⟩
theorem awake_calls (w : World) : Calls Try.prog 7 #[] w fun e w' => e = .returned (.bool true) ∧ Below w.heap.size w w' :=
  sluicegatelaw03_awake.calls 4 true w (by decide +kernel)

set_option maxHeartbeats 1000000 in
set_option maxRecDepth 100000 in
theorem parts_calls (A0 : Option Addr) (c0 : Nat) (l0 : List Int) (a1 : Int) (w : World) (hC0 : Kd.C (Kd.int .u8) w A0 l0.length l0) (hc0 : l0.length ≤ c0) (hby : By l0) (hn0 : l0.length ≤ 140737488351232) (ha0 : 0 ≤ a1) (ha1 : a1 ≤ 65535) :
    Calls Try.prog 4 #[.slice A0 l0.length c0, .int .u16 a1] w fun e w' => e = .returned (.bool true) ∧ Below w.heap.size w w' := by
  by_cases hlen : l0.length > 20000
  · have hd : decide (20000 < l0.length) = true := decide_eq_true hlen
    go_enter Try.func4, Try.ntmps4
    go_wp2_with fail
    refine (awake_calls w).mono ?_
    rintro e w1 ⟨rfl, hb⟩
    go_wp2_with fail
    go_ret
    exact ⟨rfl, hb⟩
  · have hd : decide (20000 < l0.length) = false := decide_eq_false hlen
    have hm0 := Int.emod_nonneg a1 (show (l0.length : Int) + 1 ≠ 0 by omega)
    have hm1 := Int.emod_lt_of_pos a1 (show 0 < (l0.length : Int) + 1 by omega)
    obtain ⟨k, hk⟩ : ∃ k : Nat, a1 % ((l0.length : Int) + 1) = (k : Int) := ⟨(a1 % ((l0.length : Int) + 1)).toNat, by omega⟩
    rw [hk] at hm0 hm1
    have hkl : k ≤ l0.length := by omega
    have HK := Aside0.mk hk
    clear hk hm0 hm1
    have hne : ((l0.length : Int) + 1 == 0) = false := by simp; omega
    go_enter Try.func4, Try.ntmps4
    go_wp2_with fail
    rw [HK.out]
    have hlt : (l0.take k).length = k := by rw [List.length_take]; omega
    have hdl : (l0.drop k).length = l0.length - k := List.length_drop
    obtain ⟨i5, hi5⟩ : ∃ i5, Try.prog.info? 5 = some i5 := Option.isSome_iff_exists.1 (by rfl)
    have hz5 : i5.size = 1 := by
      have : (Try.prog.info? 5).map (·.size) = some 1 := by kernel_rfl
      rw [hi5] at this
      simpa using this
    have s18 := fun W => cut_take (P := Try.prog) 24 5 Try.underlying24 hi5 .i64 A0 l0.length c0 k hkl hc0 W
    have s23 := fun W => cut_drop (P := Try.prog) 24 5 Try.underlying24 hi5 .i64 A0 l0.length c0 k hkl hc0 W
    rw [hz5] at s23
    have hCD := Kd.C_drop (m := k) hC0 hkl hc0
    rw [show (if c0 = k then A0 else A0.map (·.add (k * (Kd.int .u8).sz))) = cutA A0 c0 k 1 from rfl] at hCD
    generalize cutA A0 c0 k 1 = A1 at s23 hCD
    have HT := Aside0.mk (fun W (hb : Below w.heap.size w W) => (show IsL (Kd.int .u8) (l0.take k) (.slice A0 k c0) W from ⟨A0, c0, by rw [hlt], by omega, Kd.C_below (Kd.C_take hC0 hkl) hb⟩))
    have HDC := Aside0.mk (fun W (hb : Below w.heap.size w W) => Kd.C_below hCD hb)
    have HD := Aside0.mk (fun W (hb : Below w.heap.size w W) => (show IsL (Kd.int .u8) (l0.drop k) (.slice A1 (l0.length - k) (c0 - k)) W from ⟨A1, c0 - k, by rw [hdl], by omega, Kd.C_below hCD hb⟩))
    have H0 := Aside0.mk (fun W (hb : Below w.heap.size w W) => (show IsL (Kd.int .u8) l0 (.slice A0 l0.length c0) W from ⟨A0, c0, rfl, hc0, Kd.C_below hC0 hb⟩))
    have F1 := Aside0.mk (show M 1 (List.flatten [l0.take k]) = M 1 (l0.take k) by simp)
    have F0 := Aside0.mk (show M 1 (List.flatten [l0]) = M 1 l0 by simp)
    have F2 := Aside0.mk (show M 1 (List.flatten [l0.take k, l0.drop k]) = M 1 l0 by simp)
    have FA := Aside0.mk (show M (M 1 (l0.take k)) (l0.drop k) = M 1 l0 by rw [M_app, List.take_append_drop])
    have hb0 : Bys [l0] := fun x hx => by rw [List.mem_singleton.1 hx]; exact ⟨hby, hn0⟩
    have hb1 : Bys [l0.take k] := fun x hx => by rw [List.mem_singleton.1 hx]; exact ⟨hby.take k, by omega⟩
    have hb2 : Bys [l0.take k, l0.drop k] := fun x hx => by
      rcases List.mem_cons.1 hx with rfl | hx
      · exact ⟨hby.take k, by omega⟩
      · rw [List.mem_singleton.1 hx]; exact ⟨hby.drop k, by omega⟩
    have HDL := Aside0.mk hdl
    clear hdl hlt hCD
    refine Reg.region_list [Reg.Is (.slice A0 l0.length c0), Reg.Is (.int .i64 (k : Int)), Reg.Is (.slice A0 k c0), (IsL (Kd.slice 5 (Kd.int .u8)) [l0.take k]), Reg.Is (.int .u32 (M 1 (l0.take k))), Reg.Is (.slice A0 l0.length c0), Reg.Is (.int .i64 (k : Int)), Reg.Is (.slice A1 (l0.length - k) (c0 - k)), Reg.Is (.int .u32 (M 1 l0)), Reg.Is (.slice A0 l0.length c0), (IsL (Kd.slice 5 (Kd.int .u8)) [l0]), Reg.Is (.int .u32 (M 1 l0)), Reg.Is (.bool true), Reg.Is (.bool true), Reg.Is (.slice A0 l0.length c0), Reg.Is (.int .i64 (k : Int)), Reg.Is (.slice A0 k c0), Reg.Is (.slice A0 l0.length c0), Reg.Is (.int .i64 (k : Int)), Reg.Is (.slice A1 (l0.length - k) (c0 - k)), (IsL (Kd.slice 5 (Kd.int .u8)) [l0.take k, l0.drop k]), Reg.Is (.int .u32 (M 1 l0)), Reg.Is (.slice A0 l0.length c0), (IsL (Kd.slice 5 (Kd.int .u8)) [l0]), Reg.Is (.int .u32 (M 1 l0)), Reg.Is (.bool true), Reg.Is (.bool true), Reg.Is (.bool true), Reg.Is (.bool true), Reg.Is (.bool true), Reg.Is (.bool true)]
        [some 16, some 17, some 18, some 19, some 20, some 21, some 22, some 23, some 24, some 25, some 26, some 27, some 28, some 29, some 30, some 31, some 32, some 33, some 34, some 35, some 36, some 37, some 38, some 39, some 40, some 41, some 42, some 43, some 44, some 45, some 4] (by kernel_rfl) (by rfl) (by rfl) (by rfl) rfl ⟨Reg.mono_is _, Reg.mono_is _, Reg.mono_is _, (fun _ _ _ h hb => IsL.mono h hb), Reg.mono_is _, Reg.mono_is _, Reg.mono_is _, Reg.mono_is _, Reg.mono_is _, Reg.mono_is _, (fun _ _ _ h hb => IsL.mono h hb), Reg.mono_is _, Reg.mono_is _, Reg.mono_is _, Reg.mono_is _, Reg.mono_is _, Reg.mono_is _, Reg.mono_is _, Reg.mono_is _, Reg.mono_is _, (fun _ _ _ h hb => IsL.mono h hb), Reg.mono_is _, Reg.mono_is _, (fun _ _ _ h hb => IsL.mono h hb), Reg.mono_is _, Reg.mono_is _, Reg.mono_is _, Reg.mono_is _, Reg.mono_is _, Reg.mono_is _, Reg.mono_is _, trivial⟩ (Reg.noneOk_of (by rfl)) ⟨?_, ?_, ?_, ?_, ?_, ?_, ?_, ?_, ?_, ?_, ?_, ?_, ?_, ?_, ?_, ?_, ?_, ?_, ?_, ?_, ?_, ?_, ?_, ?_, ?_, ?_, ?_, ?_, ?_, ?_, ?_, trivial⟩ ?_
    · intro a w hl   -- 0: slot 16
      have q0 : a.eval (.tmp 0) = .slice A0 l0.length c0 := hl.out 0 rfl
      have qc : ∀ x, a.eval (.const x) = x := fun _ => rfl
      refine Reg.does_is (x := .slice A0 l0.length c0) rfl rfl ?_
      clear hl
      generalize a.eval = ρ at *
      go_simp
    · intro a w hl   -- 1: slot 17
      have q5 : a.eval (.tmp 5) = .int .i64 (k : Int) := hl.out 5 rfl
      have qc : ∀ x, a.eval (.const x) = x := fun _ => rfl
      refine Reg.does_is (x := .int .i64 (k : Int)) rfl rfl ?_
      clear hl
      generalize a.eval = ρ at *
      go_simp
    · intro a w hl   -- 2: slot 18
      have q16 : a.eval (.tmp 16) = .slice A0 l0.length c0 := hl.has 0 rfl
      have q17 : a.eval (.tmp 17) = .int .i64 (k : Int) := hl.has 1 rfl
      have qc : ∀ x, a.eval (.const x) = x := fun _ => rfl
      refine Reg.does_is (x := .slice A0 k c0) rfl rfl ?_
      clear hl
      generalize a.eval = ρ at *
      go_simp
    · intro a w hl   -- 3: slot 19
      have q18 : a.eval (.tmp 18) = .slice A0 k c0 := hl.has 2 rfl
      have qc : ∀ x, a.eval (.const x) = x := fun _ => rfl
      refine Reg.does_new (p := IsL (Kd.slice 5 (Kd.int .u8)) [l0.take k]) (x := .slice (some ⟨w.heap.size, 0, none⟩) 1 1) (w' := w.alloc (.cells #[.slice A0 k c0] 24)) rfl rfl ?_ (lit1 rfl ((IsL.slice_ 5).2 (HT.out w hl.below))) (below_alloc (Below.refl _ _) _)
      clear hl
      generalize a.eval = ρ at *
      go_simp
    · intro a w hl   -- 4: slot 20
      have q19 : (IsL (Kd.slice 5 (Kd.int .u8)) [l0.take k]) (a.eval (.tmp 19)) w := hl.has 3 rfl
      obtain ⟨A, c, e19, hc, hC⟩ := q19
      have qc : ∀ x, a.eval (.const x) = x := fun _ => rfl
      refine Reg.does_call_is (x := .int .u32 (M 1 (l0.take k))) #[.slice A 1 c] rfl rfl Try.func9 (by kernel_rfl) rfl rfl (by simp [qc, e19]) ?_
      rw [← F1.out]
      exact sum_calls [l0.take k] hc hC (by simp) hb1
    · intro a w hl   -- 5: slot 21
      have q0 : a.eval (.tmp 0) = .slice A0 l0.length c0 := hl.out 0 rfl
      have qc : ∀ x, a.eval (.const x) = x := fun _ => rfl
      refine Reg.does_is (x := .slice A0 l0.length c0) rfl rfl ?_
      clear hl
      generalize a.eval = ρ at *
      go_simp
    · intro a w hl   -- 6: slot 22
      have q5 : a.eval (.tmp 5) = .int .i64 (k : Int) := hl.out 5 rfl
      have qc : ∀ x, a.eval (.const x) = x := fun _ => rfl
      refine Reg.does_is (x := .int .i64 (k : Int)) rfl rfl ?_
      clear hl
      generalize a.eval = ρ at *
      go_simp
    · intro a w hl   -- 7: slot 23
      have q21 : a.eval (.tmp 21) = .slice A0 l0.length c0 := hl.has 5 rfl
      have q22 : a.eval (.tmp 22) = .int .i64 (k : Int) := hl.has 6 rfl
      have qc : ∀ x, a.eval (.const x) = x := fun _ => rfl
      refine Reg.does_is (x := .slice A1 (l0.length - k) (c0 - k)) rfl rfl ?_
      clear hl
      generalize a.eval = ρ at *
      go_simp
    · intro a w hl   -- 8: slot 24
      have q20 : a.eval (.tmp 20) = .int .u32 (M 1 (l0.take k)) := hl.has 4 rfl
      have q23 : a.eval (.tmp 23) = .slice A1 (l0.length - k) (c0 - k) := hl.has 7 rfl
      have qc : ∀ x, a.eval (.const x) = x := fun _ => rfl
      refine Reg.does_call_is (x := .int .u32 (M 1 l0)) #[.int .u32 (M 1 (l0.take k)), .slice A1 (l0.length - k) (c0 - k)] rfl rfl Try.func11 (by kernel_rfl) rfl rfl (by simp [qc, q20, q23]) ?_
      rw [← FA.out, ← HDL.out]
      exact more_calls _ _ (HDC.out w hl.below) (by rw [HDL.out]; omega) (M_range _ _) (hby.drop k) (by rw [HDL.out]; omega)
    · intro a w hl   -- 9: slot 25
      have q0 : a.eval (.tmp 0) = .slice A0 l0.length c0 := hl.out 0 rfl
      have qc : ∀ x, a.eval (.const x) = x := fun _ => rfl
      refine Reg.does_is (x := .slice A0 l0.length c0) rfl rfl ?_
      clear hl
      generalize a.eval = ρ at *
      go_simp
    · intro a w hl   -- 10: slot 26
      have q25 : a.eval (.tmp 25) = .slice A0 l0.length c0 := hl.has 9 rfl
      have qc : ∀ x, a.eval (.const x) = x := fun _ => rfl
      refine Reg.does_new (p := IsL (Kd.slice 5 (Kd.int .u8)) [l0]) (x := .slice (some ⟨w.heap.size, 0, none⟩) 1 1) (w' := w.alloc (.cells #[.slice A0 l0.length c0] 24)) rfl rfl ?_ (lit1 rfl ((IsL.slice_ 5).2 (H0.out w hl.below))) (below_alloc (Below.refl _ _) _)
      clear hl
      generalize a.eval = ρ at *
      go_simp
    · intro a w hl   -- 11: slot 27
      have q26 : (IsL (Kd.slice 5 (Kd.int .u8)) [l0]) (a.eval (.tmp 26)) w := hl.has 10 rfl
      obtain ⟨A, c, e26, hc, hC⟩ := q26
      have qc : ∀ x, a.eval (.const x) = x := fun _ => rfl
      refine Reg.does_call_is (x := .int .u32 (M 1 l0)) #[.slice A 1 c] rfl rfl Try.func9 (by kernel_rfl) rfl rfl (by simp [qc, e26]) ?_
      rw [← F0.out]
      exact sum_calls [l0] hc hC (by simp) hb0
    · intro a w hl   -- 12: slot 28
      have q24 : a.eval (.tmp 24) = .int .u32 (M 1 l0) := hl.has 8 rfl
      have q27 : a.eval (.tmp 27) = .int .u32 (M 1 l0) := hl.has 11 rfl
      have qc : ∀ x, a.eval (.const x) = x := fun _ => rfl
      refine Reg.does_is (x := .bool true) rfl rfl ?_
      clear hl
      generalize a.eval = ρ at *
      go_simp
    · intro a w hl   -- 13: slot 29
      have q28 : a.eval (.tmp 28) = .bool true := hl.has 12 rfl
      have qc : ∀ x, a.eval (.const x) = x := fun _ => rfl
      refine Reg.does_is (x := .bool true) rfl rfl ?_
      clear hl
      generalize a.eval = ρ at *
      go_simp
    · intro a w hl   -- 14: slot 30
      have q0 : a.eval (.tmp 0) = .slice A0 l0.length c0 := hl.out 0 rfl
      have q29 : a.eval (.tmp 29) = .bool true := hl.has 13 rfl
      have qc : ∀ x, a.eval (.const x) = x := fun _ => rfl
      refine Reg.does_is (x := .slice A0 l0.length c0) rfl (Reg.wanted_of rfl rfl (hl.yields 13 rfl rfl q29)) ?_
      clear hl
      generalize a.eval = ρ at *
      go_simp
    · intro a w hl   -- 15: slot 31
      have q5 : a.eval (.tmp 5) = .int .i64 (k : Int) := hl.out 5 rfl
      have q29 : a.eval (.tmp 29) = .bool true := hl.has 13 rfl
      have qc : ∀ x, a.eval (.const x) = x := fun _ => rfl
      refine Reg.does_is (x := .int .i64 (k : Int)) rfl (Reg.wanted_of rfl rfl (hl.yields 13 rfl rfl q29)) ?_
      clear hl
      generalize a.eval = ρ at *
      go_simp
    · intro a w hl   -- 16: slot 32
      have q30 : a.eval (.tmp 30) = .slice A0 l0.length c0 := hl.has 14 rfl
      have q31 : a.eval (.tmp 31) = .int .i64 (k : Int) := hl.has 15 rfl
      have q29 : a.eval (.tmp 29) = .bool true := hl.has 13 rfl
      have qc : ∀ x, a.eval (.const x) = x := fun _ => rfl
      refine Reg.does_is (x := .slice A0 k c0) rfl (Reg.wanted_of rfl rfl (hl.yields 13 rfl rfl q29)) ?_
      clear hl
      generalize a.eval = ρ at *
      go_simp
    · intro a w hl   -- 17: slot 33
      have q0 : a.eval (.tmp 0) = .slice A0 l0.length c0 := hl.out 0 rfl
      have q29 : a.eval (.tmp 29) = .bool true := hl.has 13 rfl
      have qc : ∀ x, a.eval (.const x) = x := fun _ => rfl
      refine Reg.does_is (x := .slice A0 l0.length c0) rfl (Reg.wanted_of rfl rfl (hl.yields 13 rfl rfl q29)) ?_
      clear hl
      generalize a.eval = ρ at *
      go_simp
    · intro a w hl   -- 18: slot 34
      have q5 : a.eval (.tmp 5) = .int .i64 (k : Int) := hl.out 5 rfl
      have q29 : a.eval (.tmp 29) = .bool true := hl.has 13 rfl
      have qc : ∀ x, a.eval (.const x) = x := fun _ => rfl
      refine Reg.does_is (x := .int .i64 (k : Int)) rfl (Reg.wanted_of rfl rfl (hl.yields 13 rfl rfl q29)) ?_
      clear hl
      generalize a.eval = ρ at *
      go_simp
    · intro a w hl   -- 19: slot 35
      have q33 : a.eval (.tmp 33) = .slice A0 l0.length c0 := hl.has 17 rfl
      have q34 : a.eval (.tmp 34) = .int .i64 (k : Int) := hl.has 18 rfl
      have q29 : a.eval (.tmp 29) = .bool true := hl.has 13 rfl
      have qc : ∀ x, a.eval (.const x) = x := fun _ => rfl
      refine Reg.does_is (x := .slice A1 (l0.length - k) (c0 - k)) rfl (Reg.wanted_of rfl rfl (hl.yields 13 rfl rfl q29)) ?_
      clear hl
      generalize a.eval = ρ at *
      go_simp
    · intro a w hl   -- 20: slot 36
      have q32 : a.eval (.tmp 32) = .slice A0 k c0 := hl.has 16 rfl
      have q35 : a.eval (.tmp 35) = .slice A1 (l0.length - k) (c0 - k) := hl.has 19 rfl
      have q29 : a.eval (.tmp 29) = .bool true := hl.has 13 rfl
      have qc : ∀ x, a.eval (.const x) = x := fun _ => rfl
      refine Reg.does_new (p := IsL (Kd.slice 5 (Kd.int .u8)) [l0.take k, l0.drop k]) (x := .slice (some ⟨w.heap.size, 0, none⟩) 2 2) (w' := w.alloc (.cells #[.slice A0 k c0, .slice A1 (l0.length - k) (c0 - k)] 24)) rfl (Reg.wanted_of rfl rfl (hl.yields 13 rfl rfl q29)) ?_ (lit2 rfl ((IsL.slice_ 5).2 (HT.out w hl.below)) ((IsL.slice_ 5).2 (HD.out w hl.below))) (below_alloc (Below.refl _ _) _)
      clear hl
      generalize a.eval = ρ at *
      go_simp
    · intro a w hl   -- 21: slot 37
      have q36 : (IsL (Kd.slice 5 (Kd.int .u8)) [l0.take k, l0.drop k]) (a.eval (.tmp 36)) w := hl.has 20 rfl
      have q29 : a.eval (.tmp 29) = .bool true := hl.has 13 rfl
      obtain ⟨A, c, e36, hc, hC⟩ := q36
      have qc : ∀ x, a.eval (.const x) = x := fun _ => rfl
      refine Reg.does_call_is (x := .int .u32 (M 1 l0)) #[.slice A 2 c] rfl (Reg.wanted_of rfl rfl (hl.yields 13 rfl rfl q29)) Try.func9 (by kernel_rfl) rfl rfl (by simp [qc, e36]) ?_
      rw [← F2.out]
      exact sum_calls [l0.take k, l0.drop k] hc hC (by simp) hb2
    · intro a w hl   -- 22: slot 38
      have q0 : a.eval (.tmp 0) = .slice A0 l0.length c0 := hl.out 0 rfl
      have q29 : a.eval (.tmp 29) = .bool true := hl.has 13 rfl
      have qc : ∀ x, a.eval (.const x) = x := fun _ => rfl
      refine Reg.does_is (x := .slice A0 l0.length c0) rfl (Reg.wanted_of rfl rfl (hl.yields 13 rfl rfl q29)) ?_
      clear hl
      generalize a.eval = ρ at *
      go_simp
    · intro a w hl   -- 23: slot 39
      have q38 : a.eval (.tmp 38) = .slice A0 l0.length c0 := hl.has 22 rfl
      have q29 : a.eval (.tmp 29) = .bool true := hl.has 13 rfl
      have qc : ∀ x, a.eval (.const x) = x := fun _ => rfl
      refine Reg.does_new (p := IsL (Kd.slice 5 (Kd.int .u8)) [l0]) (x := .slice (some ⟨w.heap.size, 0, none⟩) 1 1) (w' := w.alloc (.cells #[.slice A0 l0.length c0] 24)) rfl (Reg.wanted_of rfl rfl (hl.yields 13 rfl rfl q29)) ?_ (lit1 rfl ((IsL.slice_ 5).2 (H0.out w hl.below))) (below_alloc (Below.refl _ _) _)
      clear hl
      generalize a.eval = ρ at *
      go_simp
    · intro a w hl   -- 24: slot 40
      have q39 : (IsL (Kd.slice 5 (Kd.int .u8)) [l0]) (a.eval (.tmp 39)) w := hl.has 23 rfl
      have q29 : a.eval (.tmp 29) = .bool true := hl.has 13 rfl
      obtain ⟨A, c, e39, hc, hC⟩ := q39
      have qc : ∀ x, a.eval (.const x) = x := fun _ => rfl
      refine Reg.does_call_is (x := .int .u32 (M 1 l0)) #[.slice A 1 c] rfl (Reg.wanted_of rfl rfl (hl.yields 13 rfl rfl q29)) Try.func9 (by kernel_rfl) rfl rfl (by simp [qc, e39]) ?_
      rw [← F0.out]
      exact sum_calls [l0] hc hC (by simp) hb0
    · intro a w hl   -- 25: slot 41
      have q37 : a.eval (.tmp 37) = .int .u32 (M 1 l0) := hl.has 21 rfl
      have q40 : a.eval (.tmp 40) = .int .u32 (M 1 l0) := hl.has 24 rfl
      have q29 : a.eval (.tmp 29) = .bool true := hl.has 13 rfl
      have qc : ∀ x, a.eval (.const x) = x := fun _ => rfl
      refine Reg.does_is (x := .bool true) rfl (Reg.wanted_of rfl rfl (hl.yields 13 rfl rfl q29)) ?_
      clear hl
      generalize a.eval = ρ at *
      go_simp
    · intro a w hl   -- 26: slot 42
      have q29 : a.eval (.tmp 29) = .bool true := hl.has 13 rfl
      have q41 : a.eval (.tmp 41) = .bool true := hl.has 25 rfl
      have qc : ∀ x, a.eval (.const x) = x := fun _ => rfl
      refine Reg.does_is (x := .bool true) rfl rfl ?_
      clear hl
      generalize a.eval = ρ at *
      go_simp
    · intro a w hl   -- 27: slot 43
      have q42 : a.eval (.tmp 42) = .bool true := hl.has 26 rfl
      have qc : ∀ x, a.eval (.const x) = x := fun _ => rfl
      refine Reg.does_is (x := .bool true) rfl rfl ?_
      clear hl
      generalize a.eval = ρ at *
      go_simp
    · intro a w hl   -- 28: slot 44
      have q43 : a.eval (.tmp 43) = .bool true := hl.has 27 rfl
      have qc : ∀ x, a.eval (.const x) = x := fun _ => rfl
      refine Reg.does_call_is (x := .bool true) #[] rfl (Reg.wanted_of rfl rfl (hl.yields 27 rfl rfl q43)) Try.func7 (by kernel_rfl) rfl rfl (by simp [qc]) ?_
      exact awake_calls w
    · intro a w hl   -- 29: slot 45
      have q43 : a.eval (.tmp 43) = .bool true := hl.has 27 rfl
      have q44 : a.eval (.tmp 44) = .bool true := hl.has 28 rfl
      have qc : ∀ x, a.eval (.const x) = x := fun _ => rfl
      refine Reg.does_is (x := .bool true) rfl rfl ?_
      clear hl
      generalize a.eval = ρ at *
      go_simp
    · intro a w hl   -- 30: slot 4
      have q45 : a.eval (.tmp 45) = .bool true := hl.has 29 rfl
      have qc : ∀ x, a.eval (.const x) = x := fun _ => rfl
      refine Reg.does_is (x := .bool true) rfl rfl ?_
      clear hl
      generalize a.eval = ρ at *
      go_simp
    · rintro v w hb ⟨e16, e17, e18, e19, e20, e21, e22, e23, e24, e25, e26, e27, e28, e29, e30, e31, e32, e33, e34, e35, e36, e37, e38, e39, e40, e41, e42, e43, e44, e45, e4, _⟩
      replace e16 : v 0 = .slice A0 l0.length c0 := e16
      replace e17 : v 1 = .int .i64 (k : Int) := e17
      replace e18 : v 2 = .slice A0 k c0 := e18
      replace e19 : (IsL (Kd.slice 5 (Kd.int .u8)) [l0.take k]) (v 3) w := e19
      replace e20 : v 4 = .int .u32 (M 1 (l0.take k)) := e20
      replace e21 : v 5 = .slice A0 l0.length c0 := e21
      replace e22 : v 6 = .int .i64 (k : Int) := e22
      replace e23 : v 7 = .slice A1 (l0.length - k) (c0 - k) := e23
      replace e24 : v 8 = .int .u32 (M 1 l0) := e24
      replace e25 : v 9 = .slice A0 l0.length c0 := e25
      replace e26 : (IsL (Kd.slice 5 (Kd.int .u8)) [l0]) (v 10) w := e26
      replace e27 : v 11 = .int .u32 (M 1 l0) := e27
      replace e28 : v 12 = .bool true := e28
      replace e29 : v 13 = .bool true := e29
      replace e30 : v 14 = .slice A0 l0.length c0 := e30
      replace e31 : v 15 = .int .i64 (k : Int) := e31
      replace e32 : v 16 = .slice A0 k c0 := e32
      replace e33 : v 17 = .slice A0 l0.length c0 := e33
      replace e34 : v 18 = .int .i64 (k : Int) := e34
      replace e35 : v 19 = .slice A1 (l0.length - k) (c0 - k) := e35
      replace e36 : (IsL (Kd.slice 5 (Kd.int .u8)) [l0.take k, l0.drop k]) (v 20) w := e36
      replace e37 : v 21 = .int .u32 (M 1 l0) := e37
      replace e38 : v 22 = .slice A0 l0.length c0 := e38
      replace e39 : (IsL (Kd.slice 5 (Kd.int .u8)) [l0]) (v 23) w := e39
      replace e40 : v 24 = .int .u32 (M 1 l0) := e40
      replace e41 : v 25 = .bool true := e41
      replace e42 : v 26 = .bool true := e42
      replace e43 : v 27 = .bool true := e43
      replace e44 : v 28 = .bool true := e44
      replace e45 : v 29 = .bool true := e45
      replace e4 : v 30 = .bool true := e4
      simp only [Reg.putL, Act.put, List.setIfInBounds_toArray, List.set_cons_zero, List.set_cons_succ, e16, e17, e18, e20, e21, e22, e23, e24, e25, e27, e28, e29, e30, e31, e32, e33, e34, e35, e37, e38, e40, e41, e42, e43, e44, e45, e4]
      clear e16 e17 e18 e20 e21 e22 e23 e24 e25 e27 e28 e29 e30 e31 e32 e33 e34 e35 e37 e38 e40 e41 e42 e43 e44 e45 e4
      go_wp2
      go_ret
      exact ⟨rfl, hb⟩
end Go.Proofs.Ytnoanllncohkdaa.Q
