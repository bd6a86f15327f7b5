/- MeterNobody: what the law's call comes to. -/
import Derived.Test.YtkpdcacfokcpnaaMeterRef
namespace Go.Proofs.Ytkpdcacfokcpnaa.Q
open Go.RowKit Go.Proofs.YtkpdcacfokcpnaaW.PrintWords Go.Proofs.YtkpdcacfokcpnaaW.PrintLast Go.Proofs.YtkpdcacfokcpnaaW.PrintMore
open Go.Proofs.Ytkpdcacfokcpnaa Go.Proofs.Ytkpdcacfokcpnaa.Vals
set_option linter.unusedVariables false
set_option linter.unusedSimpArgs false

/-- What stands by: the op, a meter that nobody made, the list of two. -/
structure Nb (w : World) (S0 S1 S2 : Nat) (k : Int) (b : Bool) (x r s : Int) : Prop where
  op : w.heap[S0]? = some (.cells #[.int .i64 k, .bool b, .int .i64 x, .int .u64 r, .int .u64 s] 37 (0, 0))
  met : NoMet w (.pointer (some ⟨S1, 0, none⟩))
  two : w.heap[S2]? = some (.cells #[.pointer none, .pointer (some ⟨S1, 0, none⟩)] 30 (0, 0))
theorem Nb.below {w w' : World} {S0 S1 S2 : Nat} {k : Int} {b : Bool} {x r s : Int} (h : Nb w S0 S1 S2 k b x r s) (hb : Below w.heap.size w w') : Nb w' S0 S1 S2 k b x r s := ⟨blk_below h.op hb, h.met.below hb, blk_below h.two hb⟩
theorem Nb.cells {w : World} {S0 S1 S2 : Nat} {k : Int} {b : Bool} {x r s : Int} (h : Nb w S0 S1 S2 k b x r s) : w.cell? ⟨S0, 0, none⟩ = some (.int .i64 k) ∧ w.cell? ⟨S0, 1, none⟩ = some (.bool b) ∧ w.cell? ⟨S0, 2, none⟩ = some (.int .i64 x) ∧ w.cell? ⟨S0, 3, none⟩ = some (.int .u64 r) ∧ w.cell? ⟨S0, 4, none⟩ = some (.int .u64 s) :=
  ⟨(blk_cell h.op 0).trans rfl, (blk_cell h.op 1).trans rfl, (blk_cell h.op 2).trans rfl, (blk_cell h.op 3).trans rfl, (blk_cell h.op 4).trans rfl⟩
theorem three_blk (w : World) (a b c : Obj) : (((w.alloc a).alloc b).alloc c).heap[w.heap.size]? = some a ∧ (((w.alloc a).alloc b).alloc c).heap[w.heap.size + 1]? = some b ∧ (((w.alloc a).alloc b).alloc c).heap[w.heap.size + 1 + 1]? = some c := by
  have h1 := blk_new (w.alloc a) b
  rw [show (w.alloc a).heap.size = w.heap.size + 1 from Array.size_push _] at h1
  have h2 := blk_new ((w.alloc a).alloc b) c
  rw [show ((w.alloc a).alloc b).heap.size = w.heap.size + 1 + 1 from by rw [show ((w.alloc a).alloc b).heap.size = (w.alloc a).heap.size + 1 from Array.size_push _, show (w.alloc a).heap.size = w.heap.size + 1 from Array.size_push _]] at h2
  exact ⟨blk_alloc (blk_alloc (blk_new w a) b) c, blk_alloc h1 c, h2⟩
theorem eqs0 (W : World) : (binOp .neq 35 (.agg #[.int .u64 0, .int .u64 0]) (.agg #[.int .u64 0, .int .u64 0])).run Try.prog W = .ok (.bool false) W := by kernel_rfl

set_option maxHeartbeats 4000000 in
theorem nobody_calls (k : Int) (b : Bool) (x r s : Int) (w : World) : Calls Try.prog 6 #[.agg #[.int .i64 k, .bool b, .int .i64 x, .int .u64 r, .int .u64 s]] w fun e w' => e = .returned (.bool true) ∧ Below w.heap.size w w' := by
  have hq := eqs0
  go_enter Try.func6, Try.ntmps6
  go_wp2_with fail
  generalize hW : World.alloc _ _ = W
  have HN : Aside0 (Nb W w.heap.size (w.heap.size + 1) (w.heap.size + 1 + 1) k b x r s ∧ Below w.heap.size w W) := by
    subst hW
    obtain ⟨h1, h2, h3⟩ := three_blk w _ _ _
    exact ⟨⟨h1, Or.inr ⟨_, rfl, _, h2, rfl⟩, h3⟩, below_alloc (below_alloc (below_alloc (Below.refl _ _) _) _) _⟩
  clear hW
  generalize w.heap.size + 1 + 1 = S2 at HN ⊢
  generalize w.heap.size + 1 = S1 at HN ⊢
  obtain ⟨S0, hS0⟩ : ∃ S0, w.heap.size = S0 := ⟨_, rfl⟩
  rw [hS0] at HN ⊢
  have HW := Aside0.mk hS0
  clear hS0
  go_loopg [5] 3 (fun kq v5 wx => ∃ i : Nat, v5 = .int .i64 (i : Int) ∧ Aside0 (kq = 3 - i ∧ i ≤ 2) ∧ Aside0 (Nb wx S0 S1 S2 k b x r s ∧ Below S0 w wx))
  case atStart => exact ⟨0, rfl, ⟨rfl, by omega⟩, HN⟩
  case round =>
    clear HN
    obtain ⟨i, rfl, HI, HN⟩ := hrel
    by_cases h2 : i = 2
    · subst h2
      go_wp2_with fail
      refine (awake_calls _).mono ?_
      rintro en w9 ⟨rfl, hb⟩
      have HB := Aside0.mk (show Below S0 w w9 from by have e := HW.out; subst e; exact below_step HN.out.2 hb)
      clear hb
      go_wp2_with fail
      go_ret
      exact ⟨by simp, by rw [HW.out]; exact HB.out⟩
    · have hcase : i = 0 ∨ i = 1 := by have := HI.out; omega
      obtain ⟨k0, k1, k2, k3, k4⟩ := HN.out.1.cells
      have l0 := (blk_cell HN.out.1.two 0).trans rfl
      have l1 := (blk_cell HN.out.1.two 1).trans rfl
      have HV0 := Aside0.mk (show NoMet wr (.pointer none) from Or.inl rfl)
      have HV1 := Aside0.mk HN.out.1.met
      clear h2
      rcases hcase with rfl | rfl
      · have HV := HV0
        clear HV0 HV1
        go_wp2_with fail
        clear k0 k1 k2 k3 k4 l0 l1
        refine (changes_none HV.out).mono ?_
        rintro en w9 ⟨rfl, rfl⟩
        obtain ⟨k0, k1, k2, k3, k4⟩ := HN.out.1.cells
        go_wp2_with fail
        clear k0 k1 k2 k3 k4
        refine (hear_none HV.out k b x r s).mono ?_
        rintro en w9 ⟨rfl, hb⟩
        have HNN := Aside0.mk (show Nb w9 S0 S1 S2 k b x r s ∧ Below S0 w w9 from ⟨HN.out.1.below hb, by have e := HW.out; subst e; exact below_step HN.out.2 hb⟩)
        have HVV := Aside0.mk (HV.out.below hb)
        clear hb HN HV
        have HN := HNN
        have HV := HVV
        clear HNN HVV
        obtain ⟨k0, k1, k2, k3, k4⟩ := HN.out.1.cells
        go_wp2_with fail
        clear k0 k1 k2 k3 k4
        refine (sum_none HV.out k).mono ?_
        rintro en w9 ⟨rfl, hb⟩
        have HNN := Aside0.mk (show Nb w9 S0 S1 S2 k b x r s ∧ Below S0 w w9 from ⟨HN.out.1.below hb, by have e := HW.out; subst e; exact below_step HN.out.2 hb⟩)
        have HVV := Aside0.mk (HV.out.below hb)
        clear hb HN HV
        have HN := HNN
        have HV := HVV
        clear HNN HVV
        obtain ⟨k0, k1, k2, k3, k4⟩ := HN.out.1.cells
        go_wp2_with fail
        clear k0 k1 k2 k3 k4
        refine (most_none HV.out k).mono ?_
        rintro en w9 ⟨rfl, hb⟩
        have HNN := Aside0.mk (show Nb w9 S0 S1 S2 k b x r s ∧ Below S0 w w9 from ⟨HN.out.1.below hb, by have e := HW.out; subst e; exact below_step HN.out.2 hb⟩)
        have HVV := Aside0.mk (HV.out.below hb)
        clear hb HN HV
        have HN := HNN
        have HV := HVV
        clear HNN HVV
        obtain ⟨k0, k1, k2, k3, k4⟩ := HN.out.1.cells
        go_wp2_with fail
        clear k0 k1 k2 k3 k4
        refine (bound_none HV.out).mono ?_
        rintro en w9 ⟨rfl, rfl⟩
        go_wp2_with fail
        refine (within_none HV.out).mono ?_
        rintro en w9 ⟨rfl, rfl⟩
        go_wp2_with fail
        go_roundg (2 - ((0 : Nat)))
        case measure => have := HI.out; omega
        case rel => exact ⟨0 + 1, by simp, ⟨by omega, by omega⟩, HN⟩
      · have HV := HV1
        clear HV0 HV1
        go_wp2_with fail
        clear k0 k1 k2 k3 k4 l0 l1
        refine (changes_none HV.out).mono ?_
        rintro en w9 ⟨rfl, rfl⟩
        obtain ⟨k0, k1, k2, k3, k4⟩ := HN.out.1.cells
        go_wp2_with fail
        clear k0 k1 k2 k3 k4
        refine (hear_none HV.out k b x r s).mono ?_
        rintro en w9 ⟨rfl, hb⟩
        have HNN := Aside0.mk (show Nb w9 S0 S1 S2 k b x r s ∧ Below S0 w w9 from ⟨HN.out.1.below hb, by have e := HW.out; subst e; exact below_step HN.out.2 hb⟩)
        have HVV := Aside0.mk (HV.out.below hb)
        clear hb HN HV
        have HN := HNN
        have HV := HVV
        clear HNN HVV
        obtain ⟨k0, k1, k2, k3, k4⟩ := HN.out.1.cells
        go_wp2_with fail
        clear k0 k1 k2 k3 k4
        refine (sum_none HV.out k).mono ?_
        rintro en w9 ⟨rfl, hb⟩
        have HNN := Aside0.mk (show Nb w9 S0 S1 S2 k b x r s ∧ Below S0 w w9 from ⟨HN.out.1.below hb, by have e := HW.out; subst e; exact below_step HN.out.2 hb⟩)
        have HVV := Aside0.mk (HV.out.below hb)
        clear hb HN HV
        have HN := HNN
        have HV := HVV
        clear HNN HVV
        obtain ⟨k0, k1, k2, k3, k4⟩ := HN.out.1.cells
        go_wp2_with fail
        clear k0 k1 k2 k3 k4
        refine (most_none HV.out k).mono ?_
        rintro en w9 ⟨rfl, hb⟩
        have HNN := Aside0.mk (show Nb w9 S0 S1 S2 k b x r s ∧ Below S0 w w9 from ⟨HN.out.1.below hb, by have e := HW.out; subst e; exact below_step HN.out.2 hb⟩)
        have HVV := Aside0.mk (HV.out.below hb)
        clear hb HN HV
        have HN := HNN
        have HV := HVV
        clear HNN HVV
        obtain ⟨k0, k1, k2, k3, k4⟩ := HN.out.1.cells
        go_wp2_with fail
        clear k0 k1 k2 k3 k4
        refine (bound_none HV.out).mono ?_
        rintro en w9 ⟨rfl, rfl⟩
        go_wp2_with fail
        refine (within_none HV.out).mono ?_
        rintro en w9 ⟨rfl, rfl⟩
        go_wp2_with fail
        go_roundg (2 - ((1 : Nat)))
        case measure => have := HI.out; omega
        case rel => exact ⟨1 + 1, by simp, ⟨by omega, by omega⟩, HN⟩
end Go.Proofs.Ytkpdcacfokcpnaa.Q
