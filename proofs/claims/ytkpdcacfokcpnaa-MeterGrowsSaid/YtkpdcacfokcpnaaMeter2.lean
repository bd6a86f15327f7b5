/- A meter: New, Bound, Changes, Within. -/
import Derived.Test.YtkpdcacfokcpnaaMeter
import Derived.StillTailTactics
import Derived.Deep.Cut
import Derived.Deep.CutRange
import Derived.Deep.CutBlock
namespace Go.Proofs.Ytkpdcacfokcpnaa.Q
open Go.RowKit Go.Proofs.YtkpdcacfokcpnaaW.PrintWords Go.Proofs.YtkpdcacfokcpnaaW.PrintLast Go.Proofs.YtkpdcacfokcpnaaW.PrintMore
open Go.Proofs.Ytkpdcacfokcpnaa Go.Proofs.Ytkpdcacfokcpnaa.Vals
set_option linter.unusedVariables false
set_option linter.unusedSimpArgs false

theorem kinds8 {P : Nat → Prop} (h0 : P 0) (h1 : P 1) (h2 : P 2) (h3 : P 3) (h4 : P 4) (h5 : P 5) (h6 : P 6) (h7 : P 7) : ∀ k : Nat, k < 8 → P k
  | 0, _ => h0 | 1, _ => h1 | 2, _ => h2 | 3, _ => h3 | 4, _ => h4 | 5, _ => h5 | 6, _ => h6 | 7, _ => h7
  | k + 8, h => by omega

def NewPost (w : World) (c : Cfg) (e : Ending) (w' : World) : Prop := ∃ g : Nat, e = .returned (.tuple #[.pointer (some ⟨g, 0, none⟩), .int .i64 0]) ∧ Met w' g c [] ∧ w.heap.size ≤ g ∧ Below w.heap.size w w'
theorem new_right (c : Cfg) (h : c.right) (w : World) : Calls Try.prog 11 #[c.v] w (NewPost w c) := by
  have hbz := blk_new w (.cells #[.int .i64 c.blocks, .int .i64 c.bytes, .int .i64 c.frames, .int .i64 c.fan, .int .i64 c.buf, .int .i64 c.leaf, .int .i64 c.key, .int .i64 c.val] 23)
  have HZ := Aside0.mk hbz
  have HB := Aside0.mk (below_alloc (Below.refl w.heap.size w) (.cells #[.int .i64 c.blocks, .int .i64 c.bytes, .int .i64 c.frames, .int .i64 c.fan, .int .i64 c.buf, .int .i64 c.leaf, .int .i64 c.key, .int .i64 c.val] 23))
  have hck := fun w => check_calls c w
  rw [if_pos h] at hck
  have HC := Aside0.mk hck
  clear hbz hck h
  go_enter Try.func11, Try.ntmps11
  go_wp2_with fail
  refine (HC.out _).mono ?_
  rintro en w1 ⟨rfl, hb⟩
  have hz := blk_below HZ.out hb
  have k0 := (blk_cell hz 0).trans rfl
  have k1 := (blk_cell hz 1).trans rfl
  have k2 := (blk_cell hz 2).trans rfl
  have k3 := (blk_cell hz 3).trans rfl
  have k4 := (blk_cell hz 4).trans rfl
  have k5 := (blk_cell hz 5).trans rfl
  have k6 := (blk_cell hz 6).trans rfl
  have k7 := (blk_cell hz 7).trans rfl
  have HB1 := Aside0.mk (below_step HB.out hb)
  clear hz hb
  go_wp2_with fail
  go_ret2
  refine ⟨w1.heap.size, by simp, ⟨⟨_, blk_new _ _, rfl, rfl, rfl, rfl, rfl, rfl, rfl, rfl, rfl, rfl, rfl, rfl, rfl, ?_⟩, fun o ho => by simp at ho, by simp⟩, HB1.out.size, below_alloc HB1.out _⟩
  exact kinds8 ⟨rfl, rfl, rfl⟩ ⟨rfl, rfl, rfl⟩ ⟨rfl, rfl, rfl⟩ ⟨rfl, rfl, rfl⟩ ⟨rfl, rfl, rfl⟩ ⟨rfl, rfl, rfl⟩ ⟨rfl, rfl, rfl⟩ ⟨rfl, rfl, rfl⟩
theorem new_wrong (c : Cfg) (h : ¬ c.right) (w : World) : Calls Try.prog 11 #[c.v] w fun e w' => e = .returned (.tuple #[.pointer none, .int .i64 2]) ∧ Below w.heap.size w w' := by
  have HB := Aside0.mk (below_alloc (Below.refl w.heap.size w) (.cells #[.int .i64 c.blocks, .int .i64 c.bytes, .int .i64 c.frames, .int .i64 c.fan, .int .i64 c.buf, .int .i64 c.leaf, .int .i64 c.key, .int .i64 c.val] 23))
  have hck := fun w => check_calls c w
  rw [if_neg h] at hck
  have HC := Aside0.mk hck
  clear hck h
  go_enter Try.func11, Try.ntmps11
  go_wp2_with fail
  refine (HC.out _).mono ?_
  rintro en w1 ⟨rfl, hb⟩
  have HB1 := Aside0.mk (below_step HB.out hb)
  clear hb
  go_wp2_with fail
  go_ret2
  exact ⟨by simp, HB1.out⟩

theorem bound_none {w : World} {v : Value} (h : NoMet w v) : Calls Try.prog 12 #[v] w fun e w' => e = .returned (.int .u64 0) ∧ w = w' := by
  have HN := Aside0.mk (none_no h)
  clear h
  go_enter Try.func12, Try.ntmps12
  go_wp2_with fail
  refine HN.out.mono ?_
  rintro en w' ⟨rfl, rfl⟩
  go_wp2_with fail
  go_ret
  exact ⟨by simp, rfl⟩
def mBnd (c : Cfg) (l : List S37) : Int := bnd c (nChg l) (nFull l) (hiOf l)
theorem bound_any {w : World} {g : Nat} {c : Cfg} {l : List S37} (h : Met w g c l) : Calls Try.prog 12 #[.pointer (some ⟨g, 0, none⟩)] w fun e w' => e = .returned (.int .u64 (mBnd c l)) ∧ Below w.heap.size w w' := by
  have HN := Aside0.mk (none_met h)
  have hm : Met w.drew g c l := h.move rfl
  have HB := Aside0.mk (show Below w.heap.size w w.drew from pw_below_drewN (Below.refl _ _) 1)
  obtain ⟨cs, h1, a0, a1, a2, a3, a4, a5, a6, a7, a8, a9, a10, a11, a12, _⟩ := hm.ex
  have k0 := (blk_cell h1 0).trans a0
  have k1 := (blk_cell h1 1).trans a1
  have k2 := (blk_cell h1 2).trans a2
  have k3 := (blk_cell h1 3).trans a3
  have k4 := (blk_cell h1 4).trans a4
  have k5 := (blk_cell h1 5).trans a5
  have k6 := (blk_cell h1 6).trans a6
  have k7 := (blk_cell h1 7).trans a7
  have k10 := (blk_cell h1 10).trans a10
  have k11 := (blk_cell h1 11).trans a11
  have k12 := (blk_cell h1 12).trans a12
  clear h hm h1 a0 a1 a2 a3 a4 a5 a6 a7 a8 a9 a10 a11 a12
  go_enter Try.func12, Try.ntmps12
  go_wp2_with fail
  refine HN.out.mono ?_
  rintro en w' ⟨rfl, rfl⟩
  go_wp2_with fail
  refine wp_region_still_tail 16 (by kernel_rfl) (by kernel_rfl) ?_
  simp only [List.take_succ_cons, List.take_zero, List.drop_succ_cons, List.drop_zero]
  have ew : ({ heap := w.heap, tape := w.tape, drawn := w.drawn + 1, os := w.os, output := w.output } : World) = w.drew := rfl
  rw [ew]
  clear ew
  generalize w.drew = wq at HB k0 k1 k2 k3 k4 k5 k6 k7 k10 k11 k12 ⊢
  repeat still_step
  refine wpStill_nil ?_
  go_wp2_with fail
  refine (bound_calls c (nChg l) (nFull l) (hiOf l) wq).mono ?_
  rintro en w2 ⟨rfl, hb⟩
  have HB2 := Aside0.mk (below_step HB.out hb)
  clear hb
  go_wp2_with fail
  go_ret
  exact ⟨by simp [mBnd], HB2.out⟩

theorem changes_none {w : World} {v : Value} (h : NoMet w v) : Calls Try.prog 17 #[v] w fun e w' => e = .returned (.tuple #[.int .i64 0, .int .i64 0, .int .i64 0]) ∧ w = w' := by
  have HN := Aside0.mk (none_no h)
  clear h
  go_enter Try.func17, Try.ntmps17
  go_wp2_with fail
  refine HN.out.mono ?_
  rintro en w' ⟨rfl, rfl⟩
  go_wp2_with fail
  go_ret3
  exact ⟨by simp, rfl⟩
theorem changes_any {w : World} {g : Nat} {c : Cfg} {l : List S37} (h : Met w g c l) : Calls Try.prog 17 #[.pointer (some ⟨g, 0, none⟩)] w fun e w' => e = .returned (.tuple #[.int .i64 (nChg l), .int .i64 (nFull l), .int .i64 (hiOf l)]) ∧ Below w.heap.size w w' := by
  have HN := Aside0.mk (none_met h)
  obtain ⟨cs, h1, a0, a1, a2, a3, a4, a5, a6, a7, a8, a9, a10, a11, a12, _⟩ := h.ex
  have k10 := (blk_cell h1 10).trans a10
  have k11 := (blk_cell h1 11).trans a11
  have k12 := (blk_cell h1 12).trans a12
  clear h h1 a0 a1 a2 a3 a4 a5 a6 a7 a8 a9 a10 a11 a12
  go_enter Try.func17, Try.ntmps17
  go_wp2_with fail
  refine HN.out.mono ?_
  rintro en w' ⟨rfl, rfl⟩
  go_wp2_with fail
  go_quiet (fail)
  go_wp2_with fail
  go_ret3
  exact ⟨by simp, pw_below_drewN (Below.refl _ _) _⟩
theorem within_none {w : World} {v : Value} (h : NoMet w v) : Calls Try.prog 20 #[v] w fun e w' => e = .returned (.bool false) ∧ w = w' := by
  have HN := Aside0.mk (none_no h)
  clear h
  go_enter Try.func20, Try.ntmps20
  go_wp2_with fail
  refine HN.out.mono ?_
  rintro en w' ⟨rfl, rfl⟩
  go_wp2_with fail
  go_ret
  exact ⟨by simp, rfl⟩
end Go.Proofs.Ytkpdcacfokcpnaa.Q
