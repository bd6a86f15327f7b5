/- The pointers to a head's numbers. -/
import Derived.Test.YtlnndkhnabooeaaHeadPlain
import Derived.Test.YtlnndkhnabooeaaWAll
import Derived.Test.YtlnndkhnabooeaaHCheck
import Derived.Test.YtlnndkhnabooeaaConfRef
import Derived.Test.YtlnndkhnabooeaaSAll
import Derived.Test.YtlnndkhnabooeaaRegS
import Derived.Test.YtlnndkhnabooeaaWZeros
import Derived.RegionTactic
import Derived.ChangeAlike
namespace Go.Proofs.Ytlnndkhnabooeaa.Head
open Go.RowKit Go.Proofs.YtlnndkhnabooeaaW.PrintWords Go.Proofs.YtlnndkhnabooeaaW.PrintLast Go.Proofs.YtlnndkhnabooeaaW.PrintMore
open Go.Proofs.Ytlnndkhnabooeaa Go.Proofs.Ytlnndkhnabooeaa.Vals Go.Proofs.Ytlnndkhnabooeaa.Word Go.Proofs.Ytlnndkhnabooeaa.Q Go.Proofs.Ytlnndkhnabooeaa.Math
set_option linter.unusedVariables false
set_option linter.unusedSimpArgs false

def ptrs (H : Nat) : Array Value := #[.pointer (some ⟨H, 0, none⟩), .pointer (some ⟨H, 1, none⟩), .pointer (some ⟨H, 2, none⟩), .pointer (some ⟨H, 3, none⟩), .pointer (some ⟨H, 4, none⟩), .pointer (some ⟨H, 5, none⟩), .pointer (some ⟨H, 6, none⟩), .pointer (some ⟨H, 7, none⟩), .pointer (some ⟨H, 9, none⟩)]
theorem nine_put {w : World} {S : Nat} {t : TypeId} {a0 a1 a2 a3 a4 a5 a6 a7 a8 : Value} (h : w.heap[S]? = some (.cells #[a0, a1, a2, a3, a4, a5, a6, a7, a8] t (0, 0))) (b0 b1 b2 b3 b4 b5 b6 b7 b8 : Value) :
    (((((((((w.setCell ⟨S, 0, none⟩ b0).setCell ⟨S, 1, none⟩ b1).setCell ⟨S, 2, none⟩ b2).setCell ⟨S, 3, none⟩ b3).setCell ⟨S, 4, none⟩ b4).setCell ⟨S, 5, none⟩ b5).setCell ⟨S, 6, none⟩ b6).setCell ⟨S, 7, none⟩ b7).setCell ⟨S, 8, none⟩ b8).heap[S]? = some (.cells #[b0, b1, b2, b3, b4, b5, b6, b7, b8] t (0, 0)) ∧
    Keeps (fun k => k = S) w (((((((((w.setCell ⟨S, 0, none⟩ b0).setCell ⟨S, 1, none⟩ b1).setCell ⟨S, 2, none⟩ b2).setCell ⟨S, 3, none⟩ b3).setCell ⟨S, 4, none⟩ b4).setCell ⟨S, 5, none⟩ b5).setCell ⟨S, 6, none⟩ b6).setCell ⟨S, 7, none⟩ b7).setCell ⟨S, 8, none⟩ b8) := by
  have h1 := blk_put (cs' := #[b0, a1, a2, a3, a4, a5, a6, a7, a8]) h 0 b0 (by simp)
  have h2 := blk_put (cs' := #[b0, b1, a2, a3, a4, a5, a6, a7, a8]) h1 1 b1 (by simp)
  have h3 := blk_put (cs' := #[b0, b1, b2, a3, a4, a5, a6, a7, a8]) h2 2 b2 (by simp)
  have h4 := blk_put (cs' := #[b0, b1, b2, b3, a4, a5, a6, a7, a8]) h3 3 b3 (by simp)
  have h5 := blk_put (cs' := #[b0, b1, b2, b3, b4, a5, a6, a7, a8]) h4 4 b4 (by simp)
  have h6 := blk_put (cs' := #[b0, b1, b2, b3, b4, b5, a6, a7, a8]) h5 5 b5 (by simp)
  have h7 := blk_put (cs' := #[b0, b1, b2, b3, b4, b5, b6, a7, a8]) h6 6 b6 (by simp)
  have h8 := blk_put (cs' := #[b0, b1, b2, b3, b4, b5, b6, b7, a8]) h7 7 b7 (by simp)
  have h9 := blk_put (cs' := #[b0, b1, b2, b3, b4, b5, b6, b7, b8]) h8 8 b8 (by simp)
  have k1 := (Keeps.refl (fun k => k = S) w).set (p := ⟨S, 0, none⟩) (Or.inl rfl) b0
  have k2 := k1.set (p := ⟨S, 1, none⟩) (Or.inl rfl) b1
  have k3 := k2.set (p := ⟨S, 2, none⟩) (Or.inl rfl) b2
  have k4 := k3.set (p := ⟨S, 3, none⟩) (Or.inl rfl) b3
  have k5 := k4.set (p := ⟨S, 4, none⟩) (Or.inl rfl) b4
  have k6 := k5.set (p := ⟨S, 5, none⟩) (Or.inl rfl) b5
  have k7 := k6.set (p := ⟨S, 6, none⟩) (Or.inl rfl) b6
  have k8 := k7.set (p := ⟨S, 7, none⟩) (Or.inl rfl) b7
  have k9 := k8.set (p := ⟨S, 8, none⟩) (Or.inl rfl) b8
  exact ⟨h9, k9⟩

set_option maxHeartbeats 4000000 in
set_option maxRecDepth 100000 in
theorem numbers_calls (H : Nat) (w : World) : Calls Try.prog 14 #[.pointer (some ⟨H, 0, none⟩)] w fun e w' => e = .returned (.agg (ptrs H)) ∧ Below w.heap.size w w' := by
  have HZ := Aside0.mk (blk_new w (.cells #[.pointer none, .pointer none, .pointer none, .pointer none, .pointer none, .pointer none, .pointer none, .pointer none, .pointer none] 45))
  have HB := Aside0.mk (below_alloc (Below.refl w.heap.size w) (.cells #[.pointer none, .pointer none, .pointer none, .pointer none, .pointer none, .pointer none, .pointer none, .pointer none, .pointer none] 45))
  go_enter Try.func14, Try.ntmps14
  go_upto_region 2 with fail
  generalize w.alloc (.cells #[.pointer none, .pointer none, .pointer none, .pointer none, .pointer none, .pointer none, .pointer none, .pointer none, .pointer none] 45) = w1 at HZ HB ⊢
  obtain ⟨S, hS⟩ : ∃ S, w.heap.size = S := ⟨_, rfl⟩
  have HSS := Aside0.mk hS
  rw [hS] at HZ ⊢
  clear hS
  refine Reg.region_store 28 27 27 [] (fun v1 v2 w w' => w' = (((((((((w.setCell ⟨S, 0, none⟩ (.pointer (some ⟨H, 0, none⟩))).setCell ⟨S, 1, none⟩ (.pointer (some ⟨H, 1, none⟩))).setCell ⟨S, 2, none⟩ (.pointer (some ⟨H, 2, none⟩))).setCell ⟨S, 3, none⟩ (.pointer (some ⟨H, 3, none⟩))).setCell ⟨S, 4, none⟩ (.pointer (some ⟨H, 4, none⟩))).setCell ⟨S, 5, none⟩ (.pointer (some ⟨H, 5, none⟩))).setCell ⟨S, 6, none⟩ (.pointer (some ⟨H, 6, none⟩))).setCell ⟨S, 7, none⟩ (.pointer (some ⟨H, 7, none⟩))).setCell ⟨S, 8, none⟩ (.pointer (some ⟨H, 9, none⟩)))) [Reg.Is (.pointer (some ⟨H, 0, none⟩)), Reg.Is (.pointer (some ⟨H, 0, none⟩)), Reg.Is (.pointer (some ⟨H, 0, none⟩)), Reg.Is (.pointer (some ⟨H, 0, none⟩)), Reg.Is (.pointer (some ⟨H, 0, none⟩)), Reg.Is (.pointer (some ⟨H, 1, none⟩)), Reg.Is (.pointer (some ⟨H, 0, none⟩)), Reg.Is (.pointer (some ⟨H, 0, none⟩)), Reg.Is (.pointer (some ⟨H, 2, none⟩)), Reg.Is (.pointer (some ⟨H, 0, none⟩)), Reg.Is (.pointer (some ⟨H, 0, none⟩)), Reg.Is (.pointer (some ⟨H, 3, none⟩)), Reg.Is (.pointer (some ⟨H, 0, none⟩)), Reg.Is (.pointer (some ⟨H, 0, none⟩)), Reg.Is (.pointer (some ⟨H, 4, none⟩)), Reg.Is (.pointer (some ⟨H, 0, none⟩)), Reg.Is (.pointer (some ⟨H, 0, none⟩)), Reg.Is (.pointer (some ⟨H, 5, none⟩)), Reg.Is (.pointer (some ⟨H, 0, none⟩)), Reg.Is (.pointer (some ⟨H, 0, none⟩)), Reg.Is (.pointer (some ⟨H, 6, none⟩)), Reg.Is (.pointer (some ⟨H, 0, none⟩)), Reg.Is (.pointer (some ⟨H, 0, none⟩)), Reg.Is (.pointer (some ⟨H, 7, none⟩)), Reg.Is (.pointer (some ⟨H, 0, none⟩)), Reg.Is (.pointer (some ⟨H, 0, none⟩)), Reg.Is (.pointer (some ⟨H, 9, none⟩)), Reg.Is (.agg #[.pointer (some ⟨H, 0, none⟩), .pointer (some ⟨H, 1, none⟩), .pointer (some ⟨H, 2, none⟩), .pointer (some ⟨H, 3, none⟩), .pointer (some ⟨H, 4, none⟩), .pointer (some ⟨H, 5, none⟩), .pointer (some ⟨H, 6, none⟩), .pointer (some ⟨H, 7, none⟩), .pointer (some ⟨H, 9, none⟩)])]
      [some 7, some 8, some 9, some 10, some 11, some 12, some 13, some 14, some 15, some 16, some 17, some 18, some 19, some 20, some 21, some 22, some 23, some 24, some 25, some 26, some 27, some 28, some 29, some 30, some 31, some 32, some 33, some 34] (by kernel_rfl) (by rfl) (by rfl) (by rfl) (by rfl) rfl (by kernel_rfl) (by kernel_rfl) (by kernel_rfl) ⟨Reg.mono_is _, Reg.mono_is _, Reg.mono_is _, Reg.mono_is _, Reg.mono_is _, Reg.mono_is _, Reg.mono_is _, Reg.mono_is _, Reg.mono_is _, Reg.mono_is _, Reg.mono_is _, Reg.mono_is _, Reg.mono_is _, Reg.mono_is _, Reg.mono_is _, Reg.mono_is _, Reg.mono_is _, Reg.mono_is _, Reg.mono_is _, Reg.mono_is _, Reg.mono_is _, Reg.mono_is _, Reg.mono_is _, Reg.mono_is _, Reg.mono_is _, Reg.mono_is _, Reg.mono_is _, Reg.mono_is _, trivial⟩ (Reg.noneOkN_of (by rfl)) ⟨?_, ?_, ?_, ?_, ?_, ?_, ?_, ?_, ?_, ?_, ?_, ?_, ?_, ?_, ?_, ?_, ?_, ?_, ?_, ?_, ?_, ?_, ?_, ?_, ?_, ?_, ?_, ?_, trivial⟩ ?_ ?_ ?_
  · intro a w hl   -- 0: slot 7
    have q3 : a.eval (.tmp 3) = .pointer (some ⟨H, 0, none⟩) := hl.out 3 rfl
    have qc : ∀ x, a.eval (.const x) = x := fun _ => rfl
    refine Reg.does_is (x := .pointer (some ⟨H, 0, none⟩)) rfl rfl ?_
    clear hl
    generalize a.eval = ρ at *
    go_simp
  · intro a w hl   -- 1: slot 8
    have q7 : a.eval (.tmp 7) = .pointer (some ⟨H, 0, none⟩) := hl.has 0 rfl
    have qc : ∀ x, a.eval (.const x) = x := fun _ => rfl
    refine Reg.does_is (x := .pointer (some ⟨H, 0, none⟩)) rfl rfl ?_
    clear hl
    generalize a.eval = ρ at *
    go_simp
  · intro a w hl   -- 2: slot 9
    have q8 : a.eval (.tmp 8) = .pointer (some ⟨H, 0, none⟩) := hl.has 1 rfl
    have qc : ∀ x, a.eval (.const x) = x := fun _ => rfl
    refine Reg.does_is (x := .pointer (some ⟨H, 0, none⟩)) rfl rfl ?_
    clear hl
    generalize a.eval = ρ at *
    go_simp
  · intro a w hl   -- 3: slot 10
    have q3 : a.eval (.tmp 3) = .pointer (some ⟨H, 0, none⟩) := hl.out 3 rfl
    have qc : ∀ x, a.eval (.const x) = x := fun _ => rfl
    refine Reg.does_is (x := .pointer (some ⟨H, 0, none⟩)) rfl rfl ?_
    clear hl
    generalize a.eval = ρ at *
    go_simp
  · intro a w hl   -- 4: slot 11
    have q10 : a.eval (.tmp 10) = .pointer (some ⟨H, 0, none⟩) := hl.has 3 rfl
    have qc : ∀ x, a.eval (.const x) = x := fun _ => rfl
    refine Reg.does_is (x := .pointer (some ⟨H, 0, none⟩)) rfl rfl ?_
    clear hl
    generalize a.eval = ρ at *
    go_simp
  · intro a w hl   -- 5: slot 12
    have q11 : a.eval (.tmp 11) = .pointer (some ⟨H, 0, none⟩) := hl.has 4 rfl
    have qc : ∀ x, a.eval (.const x) = x := fun _ => rfl
    refine Reg.does_is (x := .pointer (some ⟨H, 1, none⟩)) rfl rfl ?_
    clear hl
    generalize a.eval = ρ at *
    go_simp
  · intro a w hl   -- 6: slot 13
    have q3 : a.eval (.tmp 3) = .pointer (some ⟨H, 0, none⟩) := hl.out 3 rfl
    have qc : ∀ x, a.eval (.const x) = x := fun _ => rfl
    refine Reg.does_is (x := .pointer (some ⟨H, 0, none⟩)) rfl rfl ?_
    clear hl
    generalize a.eval = ρ at *
    go_simp
  · intro a w hl   -- 7: slot 14
    have q13 : a.eval (.tmp 13) = .pointer (some ⟨H, 0, none⟩) := hl.has 6 rfl
    have qc : ∀ x, a.eval (.const x) = x := fun _ => rfl
    refine Reg.does_is (x := .pointer (some ⟨H, 0, none⟩)) rfl rfl ?_
    clear hl
    generalize a.eval = ρ at *
    go_simp
  · intro a w hl   -- 8: slot 15
    have q14 : a.eval (.tmp 14) = .pointer (some ⟨H, 0, none⟩) := hl.has 7 rfl
    have qc : ∀ x, a.eval (.const x) = x := fun _ => rfl
    refine Reg.does_is (x := .pointer (some ⟨H, 2, none⟩)) rfl rfl ?_
    clear hl
    generalize a.eval = ρ at *
    go_simp
  · intro a w hl   -- 9: slot 16
    have q3 : a.eval (.tmp 3) = .pointer (some ⟨H, 0, none⟩) := hl.out 3 rfl
    have qc : ∀ x, a.eval (.const x) = x := fun _ => rfl
    refine Reg.does_is (x := .pointer (some ⟨H, 0, none⟩)) rfl rfl ?_
    clear hl
    generalize a.eval = ρ at *
    go_simp
  · intro a w hl   -- 10: slot 17
    have q16 : a.eval (.tmp 16) = .pointer (some ⟨H, 0, none⟩) := hl.has 9 rfl
    have qc : ∀ x, a.eval (.const x) = x := fun _ => rfl
    refine Reg.does_is (x := .pointer (some ⟨H, 0, none⟩)) rfl rfl ?_
    clear hl
    generalize a.eval = ρ at *
    go_simp
  · intro a w hl   -- 11: slot 18
    have q17 : a.eval (.tmp 17) = .pointer (some ⟨H, 0, none⟩) := hl.has 10 rfl
    have qc : ∀ x, a.eval (.const x) = x := fun _ => rfl
    refine Reg.does_is (x := .pointer (some ⟨H, 3, none⟩)) rfl rfl ?_
    clear hl
    generalize a.eval = ρ at *
    go_simp
  · intro a w hl   -- 12: slot 19
    have q3 : a.eval (.tmp 3) = .pointer (some ⟨H, 0, none⟩) := hl.out 3 rfl
    have qc : ∀ x, a.eval (.const x) = x := fun _ => rfl
    refine Reg.does_is (x := .pointer (some ⟨H, 0, none⟩)) rfl rfl ?_
    clear hl
    generalize a.eval = ρ at *
    go_simp
  · intro a w hl   -- 13: slot 20
    have q19 : a.eval (.tmp 19) = .pointer (some ⟨H, 0, none⟩) := hl.has 12 rfl
    have qc : ∀ x, a.eval (.const x) = x := fun _ => rfl
    refine Reg.does_is (x := .pointer (some ⟨H, 0, none⟩)) rfl rfl ?_
    clear hl
    generalize a.eval = ρ at *
    go_simp
  · intro a w hl   -- 14: slot 21
    have q20 : a.eval (.tmp 20) = .pointer (some ⟨H, 0, none⟩) := hl.has 13 rfl
    have qc : ∀ x, a.eval (.const x) = x := fun _ => rfl
    refine Reg.does_is (x := .pointer (some ⟨H, 4, none⟩)) rfl rfl ?_
    clear hl
    generalize a.eval = ρ at *
    go_simp
  · intro a w hl   -- 15: slot 22
    have q3 : a.eval (.tmp 3) = .pointer (some ⟨H, 0, none⟩) := hl.out 3 rfl
    have qc : ∀ x, a.eval (.const x) = x := fun _ => rfl
    refine Reg.does_is (x := .pointer (some ⟨H, 0, none⟩)) rfl rfl ?_
    clear hl
    generalize a.eval = ρ at *
    go_simp
  · intro a w hl   -- 16: slot 23
    have q22 : a.eval (.tmp 22) = .pointer (some ⟨H, 0, none⟩) := hl.has 15 rfl
    have qc : ∀ x, a.eval (.const x) = x := fun _ => rfl
    refine Reg.does_is (x := .pointer (some ⟨H, 0, none⟩)) rfl rfl ?_
    clear hl
    generalize a.eval = ρ at *
    go_simp
  · intro a w hl   -- 17: slot 24
    have q23 : a.eval (.tmp 23) = .pointer (some ⟨H, 0, none⟩) := hl.has 16 rfl
    have qc : ∀ x, a.eval (.const x) = x := fun _ => rfl
    refine Reg.does_is (x := .pointer (some ⟨H, 5, none⟩)) rfl rfl ?_
    clear hl
    generalize a.eval = ρ at *
    go_simp
  · intro a w hl   -- 18: slot 25
    have q3 : a.eval (.tmp 3) = .pointer (some ⟨H, 0, none⟩) := hl.out 3 rfl
    have qc : ∀ x, a.eval (.const x) = x := fun _ => rfl
    refine Reg.does_is (x := .pointer (some ⟨H, 0, none⟩)) rfl rfl ?_
    clear hl
    generalize a.eval = ρ at *
    go_simp
  · intro a w hl   -- 19: slot 26
    have q25 : a.eval (.tmp 25) = .pointer (some ⟨H, 0, none⟩) := hl.has 18 rfl
    have qc : ∀ x, a.eval (.const x) = x := fun _ => rfl
    refine Reg.does_is (x := .pointer (some ⟨H, 0, none⟩)) rfl rfl ?_
    clear hl
    generalize a.eval = ρ at *
    go_simp
  · intro a w hl   -- 20: slot 27
    have q26 : a.eval (.tmp 26) = .pointer (some ⟨H, 0, none⟩) := hl.has 19 rfl
    have qc : ∀ x, a.eval (.const x) = x := fun _ => rfl
    refine Reg.does_is (x := .pointer (some ⟨H, 6, none⟩)) rfl rfl ?_
    clear hl
    generalize a.eval = ρ at *
    go_simp
  · intro a w hl   -- 21: slot 28
    have q3 : a.eval (.tmp 3) = .pointer (some ⟨H, 0, none⟩) := hl.out 3 rfl
    have qc : ∀ x, a.eval (.const x) = x := fun _ => rfl
    refine Reg.does_is (x := .pointer (some ⟨H, 0, none⟩)) rfl rfl ?_
    clear hl
    generalize a.eval = ρ at *
    go_simp
  · intro a w hl   -- 22: slot 29
    have q28 : a.eval (.tmp 28) = .pointer (some ⟨H, 0, none⟩) := hl.has 21 rfl
    have qc : ∀ x, a.eval (.const x) = x := fun _ => rfl
    refine Reg.does_is (x := .pointer (some ⟨H, 0, none⟩)) rfl rfl ?_
    clear hl
    generalize a.eval = ρ at *
    go_simp
  · intro a w hl   -- 23: slot 30
    have q29 : a.eval (.tmp 29) = .pointer (some ⟨H, 0, none⟩) := hl.has 22 rfl
    have qc : ∀ x, a.eval (.const x) = x := fun _ => rfl
    refine Reg.does_is (x := .pointer (some ⟨H, 7, none⟩)) rfl rfl ?_
    clear hl
    generalize a.eval = ρ at *
    go_simp
  · intro a w hl   -- 24: slot 31
    have q0 : a.eval (.tmp 0) = .pointer (some ⟨H, 0, none⟩) := hl.out 0 rfl
    have qc : ∀ x, a.eval (.const x) = x := fun _ => rfl
    refine Reg.does_is (x := .pointer (some ⟨H, 0, none⟩)) rfl rfl ?_
    clear hl
    generalize a.eval = ρ at *
    go_simp
  · intro a w hl   -- 25: slot 32
    have q31 : a.eval (.tmp 31) = .pointer (some ⟨H, 0, none⟩) := hl.has 24 rfl
    have qc : ∀ x, a.eval (.const x) = x := fun _ => rfl
    refine Reg.does_is (x := .pointer (some ⟨H, 0, none⟩)) rfl rfl ?_
    clear hl
    generalize a.eval = ρ at *
    go_simp
  · intro a w hl   -- 26: slot 33
    have q32 : a.eval (.tmp 32) = .pointer (some ⟨H, 0, none⟩) := hl.has 25 rfl
    have qc : ∀ x, a.eval (.const x) = x := fun _ => rfl
    refine Reg.does_is (x := .pointer (some ⟨H, 9, none⟩)) rfl rfl ?_
    clear hl
    generalize a.eval = ρ at *
    go_simp
  · intro a w hl   -- 27: slot 34
    have q9 : a.eval (.tmp 9) = .pointer (some ⟨H, 0, none⟩) := hl.has 2 rfl
    have q12 : a.eval (.tmp 12) = .pointer (some ⟨H, 1, none⟩) := hl.has 5 rfl
    have q15 : a.eval (.tmp 15) = .pointer (some ⟨H, 2, none⟩) := hl.has 8 rfl
    have q18 : a.eval (.tmp 18) = .pointer (some ⟨H, 3, none⟩) := hl.has 11 rfl
    have q21 : a.eval (.tmp 21) = .pointer (some ⟨H, 4, none⟩) := hl.has 14 rfl
    have q24 : a.eval (.tmp 24) = .pointer (some ⟨H, 5, none⟩) := hl.has 17 rfl
    have q27 : a.eval (.tmp 27) = .pointer (some ⟨H, 6, none⟩) := hl.has 20 rfl
    have q30 : a.eval (.tmp 30) = .pointer (some ⟨H, 7, none⟩) := hl.has 23 rfl
    have q33 : a.eval (.tmp 33) = .pointer (some ⟨H, 9, none⟩) := hl.has 26 rfl
    have qc : ∀ x, a.eval (.const x) = x := fun _ => rfl
    refine Reg.does_is (x := .agg #[.pointer (some ⟨H, 0, none⟩), .pointer (some ⟨H, 1, none⟩), .pointer (some ⟨H, 2, none⟩), .pointer (some ⟨H, 3, none⟩), .pointer (some ⟨H, 4, none⟩), .pointer (some ⟨H, 5, none⟩), .pointer (some ⟨H, 6, none⟩), .pointer (some ⟨H, 7, none⟩), .pointer (some ⟨H, 9, none⟩)]) rfl rfl ?_
    clear hl
    generalize a.eval = ρ at *
    go_simp
  · intro i hi   -- the free ones
    cases hi
  · intro a w hl   -- the store
    have q2 : a.eval (.tmp 2) = .pointer (some ⟨S, 0, none⟩) := hl.out 2 rfl
    have q34 : a.eval (.tmp 34) = .agg #[.pointer (some ⟨H, 0, none⟩), .pointer (some ⟨H, 1, none⟩), .pointer (some ⟨H, 2, none⟩), .pointer (some ⟨H, 3, none⟩), .pointer (some ⟨H, 4, none⟩), .pointer (some ⟨H, 5, none⟩), .pointer (some ⟨H, 6, none⟩), .pointer (some ⟨H, 7, none⟩), .pointer (some ⟨H, 9, none⟩)] := hl.has 27 rfl
    have q2 : a.eval (.tmp 2) = .pointer (some ⟨S, 0, none⟩) := hl.out 2 rfl
    refine ⟨rfl, rfl, _, ?_, rfl⟩
    have hz := blk_below HZ.out hl.below
    have z0 := (blk_cell hz 0).trans rfl
    have z1 := (blk_cell hz 1).trans rfl
    have z2 := (blk_cell hz 2).trans rfl
    have z3 := (blk_cell hz 3).trans rfl
    have z4 := (blk_cell hz 4).trans rfl
    have z5 := (blk_cell hz 5).trans rfl
    have z6 := (blk_cell hz 6).trans rfl
    have z7 := (blk_cell hz 7).trans rfl
    have z8 := (blk_cell hz 8).trans rfl
    have y := fun i => blk_frozen hz i
    clear hl hz
    generalize a.eval = ρ at *
    go_simp
  · rintro v w w5 hb ⟨e7, e8, e9, e10, e11, e12, e13, e14, e15, e16, e17, e18, e19, e20, e21, e22, e23, e24, e25, e26, e27, e28, e29, e30, e31, e32, e33, e34, _⟩ hW
    replace e7 : v 0 = .pointer (some ⟨H, 0, none⟩) := e7
    replace e8 : v 1 = .pointer (some ⟨H, 0, none⟩) := e8
    replace e9 : v 2 = .pointer (some ⟨H, 0, none⟩) := e9
    replace e10 : v 3 = .pointer (some ⟨H, 0, none⟩) := e10
    replace e11 : v 4 = .pointer (some ⟨H, 0, none⟩) := e11
    replace e12 : v 5 = .pointer (some ⟨H, 1, none⟩) := e12
    replace e13 : v 6 = .pointer (some ⟨H, 0, none⟩) := e13
    replace e14 : v 7 = .pointer (some ⟨H, 0, none⟩) := e14
    replace e15 : v 8 = .pointer (some ⟨H, 2, none⟩) := e15
    replace e16 : v 9 = .pointer (some ⟨H, 0, none⟩) := e16
    replace e17 : v 10 = .pointer (some ⟨H, 0, none⟩) := e17
    replace e18 : v 11 = .pointer (some ⟨H, 3, none⟩) := e18
    replace e19 : v 12 = .pointer (some ⟨H, 0, none⟩) := e19
    replace e20 : v 13 = .pointer (some ⟨H, 0, none⟩) := e20
    replace e21 : v 14 = .pointer (some ⟨H, 4, none⟩) := e21
    replace e22 : v 15 = .pointer (some ⟨H, 0, none⟩) := e22
    replace e23 : v 16 = .pointer (some ⟨H, 0, none⟩) := e23
    replace e24 : v 17 = .pointer (some ⟨H, 5, none⟩) := e24
    replace e25 : v 18 = .pointer (some ⟨H, 0, none⟩) := e25
    replace e26 : v 19 = .pointer (some ⟨H, 0, none⟩) := e26
    replace e27 : v 20 = .pointer (some ⟨H, 6, none⟩) := e27
    replace e28 : v 21 = .pointer (some ⟨H, 0, none⟩) := e28
    replace e29 : v 22 = .pointer (some ⟨H, 0, none⟩) := e29
    replace e30 : v 23 = .pointer (some ⟨H, 7, none⟩) := e30
    replace e31 : v 24 = .pointer (some ⟨H, 0, none⟩) := e31
    replace e32 : v 25 = .pointer (some ⟨H, 0, none⟩) := e32
    replace e33 : v 26 = .pointer (some ⟨H, 9, none⟩) := e33
    replace e34 : v 27 = .agg #[.pointer (some ⟨H, 0, none⟩), .pointer (some ⟨H, 1, none⟩), .pointer (some ⟨H, 2, none⟩), .pointer (some ⟨H, 3, none⟩), .pointer (some ⟨H, 4, none⟩), .pointer (some ⟨H, 5, none⟩), .pointer (some ⟨H, 6, none⟩), .pointer (some ⟨H, 7, none⟩), .pointer (some ⟨H, 9, none⟩)] := e34
    simp only [Reg.putL, Act.put, List.setIfInBounds_toArray, List.set_cons_zero, List.set_cons_succ, e7, e8, e9, e10, e11, e12, e13, e14, e15, e16, e17, e18, e19, e20, e21, e22, e23, e24, e25, e26, e27, e28, e29, e30, e31, e32, e33, e34]
    clear e7 e8 e9 e10 e11 e12 e13 e14 e15 e16 e17 e18 e19 e20 e21 e22 e23 e24 e25 e26 e27 e28 e29 e30 e31 e32 e33 e34
    have hz := blk_below HZ.out hb
    have HW := Aside0.mk (nine_put hz (.pointer (some ⟨H, 0, none⟩)) (.pointer (some ⟨H, 1, none⟩)) (.pointer (some ⟨H, 2, none⟩)) (.pointer (some ⟨H, 3, none⟩)) (.pointer (some ⟨H, 4, none⟩)) (.pointer (some ⟨H, 5, none⟩)) (.pointer (some ⟨H, 6, none⟩)) (.pointer (some ⟨H, 7, none⟩)) (.pointer (some ⟨H, 9, none⟩)))
    rw [← hW] at HW
    have HB0 := Aside0.mk hb
    clear hz hW hb
    simp only [List.drop_succ_cons, List.drop_zero]
    go_wp2_with fail
    refine bodyPost_ret (results_cell_row rfl _ _ S 45 (ptrs H) (0, 0) _ rfl HW.out.1 Try.underlying45 rfl (by kernel_rfl)) rfl ⟨rfl, ?_⟩
    have hs := HSS.out
    exact Keeps.below_then (below_step HB.out HB0.out) (Nat.le_refl _) HW.out.2 (fun i hi => by have : i = S := hi; omega)
end Go.Proofs.Ytlnndkhnabooeaa.Head
