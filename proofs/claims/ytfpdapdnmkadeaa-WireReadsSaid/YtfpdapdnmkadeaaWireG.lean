/- wire.Script of one Get, as the page's example asks it. -/
import Derived.Test.YtfpdapdnmkadeaaWireA
namespace Go.Proofs.Ytfpdapdnmkadeaa.Wire
open Go.RowKit Go.Proofs.YtfpdapdnmkadeaaW.PrintWords Go.Proofs.YtfpdapdnmkadeaaW.PrintLast Go.Proofs.YtfpdapdnmkadeaaW.PrintMore
open Go.Proofs.Ytfpdapdnmkadeaa Go.Proofs.Ytfpdapdnmkadeaa.Vals Go.Proofs.Ytfpdapdnmkadeaa.Word Go.Proofs.Ytfpdapdnmkadeaa.Q
set_option linter.unusedVariables false
set_option linter.unusedSimpArgs false

theorem eqA52 (d : Nat) (w : World) (x0 y0 : Int) (x1 y1 x2 y2 : ByteArray) (x3 y3 : Int) : (Op.equalIn (d + 2) 52 (.agg #[.int .i64 x0, .string x1, .string x2, .int .i64 x3]) (.agg #[.int .i64 y0, .string y1, .string y2, .int .i64 y3])).run Try.prog w = .ok (x0 == y0 && (x1.toList == y1.toList && (x2.toList == y2.toList && (x3 == y3)))) w := by
  refine eqA_of Try.underlying52 (by kernel_rfl) ?_
  refine eqf_cons (by rfl) (by go_simp; rfl) (by go_simp; rfl) (by go_simp) ?_
  refine eqf_cons (by rfl) (by go_simp; rfl) (by go_simp; rfl) (by go_simp) ?_
  refine eqf_cons (by rfl) (by go_simp; rfl) (by go_simp; rfl) (by go_simp) ?_
  exact eqf_last (by rfl) (by go_simp; rfl) (by go_simp; rfl) (by go_simp)

set_option maxHeartbeats 4000000 in
theorem get_calls {w : World} {B g : Nat} {v : Value} {bs : List Int} (h : Wr w B g v bs false) (hl : bs.length ≤ 1000000) (s : ByteArray) (hs : s.size ≤ 255) :
    Calls Try.prog 36 #[.pointer (some ⟨g, 0, none⟩), .agg #[.int .i64 3, .string s, .string ⟨#[]⟩, .int .i64 0]] w (WPost w B g (tB 1 255 s (bs ++ be 1 3)) (tBad 255 s false)) := by
  have HZ := Aside0.mk (blk_new w (.cells #[.int .i64 3, .string s, .string ⟨#[]⟩, .int .i64 0] 52))
  have HB := Aside0.mk (below_low (below_alloc (Below.refl w.heap.size w) (.cells #[.int .i64 3, .string s, .string ⟨#[]⟩, .int .i64 0] 52)) h.low)
  have HF := Aside0.mk (Fr.below g (below_alloc (Below.refl w.heap.size w) (.cells #[.int .i64 3, .string s, .string ⟨#[]⟩, .int .i64 0] 52)))
  have HW := Aside0.mk (h.below (below_alloc (Below.refl _ _) (.cells #[.int .i64 3, .string s, .string ⟨#[]⟩, .int .i64 0] 52)))
  have HGZ := Aside0.mk (show w.heap.size ≠ g from Nat.ne_of_gt h.lt)
  clear h
  go_enter Try.func36, Try.ntmps36
  go_upto_region 1 with fail
  generalize w.alloc (.cells #[.int .i64 3, .string s, .string ⟨#[]⟩, .int .i64 0] 52) = w1 at HZ HB HF HW ⊢
  generalize w.heap.size = S at HZ HGZ ⊢
  have k0 := (blk_cell HZ.out 0).trans rfl
  go_wp2_with fail
  clear k0
  refine (num_calls HW.out (by omega) (n := 1) (by decide) (x := 3) (by decide)).mono ?_
  rintro en w2 ⟨⟨u, rfl⟩, ⟨v2, hw⟩, hb, hf⟩
  have HW2 := Aside0.mk hw
  have HB2 := Aside0.mk (below_trans HB.out hb)
  have HF2 := Aside0.mk (HF.out.trans hf)
  have HZ2 := Aside0.mk (hf S _ _ HZ.out (by decide) HGZ.out)
  clear hw hb hf HW HB HF HZ
  have k0 := (blk_cell HZ2.out 0).trans rfl
  have k1 := (blk_cell HZ2.out 1).trans rfl
  have k2 := (blk_cell HZ2.out 2).trans rfl
  have k3 := (blk_cell HZ2.out 3).trans rfl
  go_upto_region 4 with fail
  clear k0 k1 k2 k3
  have HR3 := Aside0.mk (blk_new w2 (.cells #[.int .i64 0, .string s, .string ⟨#[]⟩, .int .i64 0] 52))
  have HW3 := Aside0.mk (HW2.out.below (below_alloc (Below.refl _ _) (.cells #[.int .i64 0, .string s, .string ⟨#[]⟩, .int .i64 0] 52)))
  have HB3 := Aside0.mk (below_trans HB2.out (below_low (below_alloc (Below.refl w2.heap.size w2) (.cells #[.int .i64 0, .string s, .string ⟨#[]⟩, .int .i64 0] 52)) HW2.out.low))
  have HF3 := Aside0.mk (HF2.out.trans (Fr.below g (below_alloc (Below.refl w2.heap.size w2) (.cells #[.int .i64 0, .string s, .string ⟨#[]⟩, .int .i64 0] 52))))
  have HZ3 := Aside0.mk (blk_below HZ2.out (below_alloc (Below.refl w2.heap.size w2) (.cells #[.int .i64 0, .string s, .string ⟨#[]⟩, .int .i64 0] 52)))
  have HRG := Aside0.mk (show w2.heap.size ≠ g ∧ w2.heap.size ≠ S ∧ B ≤ w2.heap.size from ⟨Nat.ne_of_gt HW2.out.lt, Nat.ne_of_gt (blk_lt HZ2.out), HW2.out.low⟩)
  have HNW := Aside0.mk (show w.heap.size ≤ w2.heap.size from HB2.out.size)
  clear HW2 HB2 HF2 HZ2
  generalize w2.alloc (.cells #[.int .i64 0, .string s, .string ⟨#[]⟩, .int .i64 0] 52) = w3 at HR3 HW3 HB3 HF3 HZ3 ⊢
  generalize w2.heap.size = R at HR3 HRG HNW ⊢
  have k0 := (blk_cell HZ3.out 0).trans rfl
  have k1 := (blk_cell HZ3.out 1).trans rfl
  go_wp2_with fail
  clear k0 k1
  refine (short_calls HW3.out (by rw [List.length_append, be_length]; omega) s).mono ?_
  rintro en w4 ⟨⟨u4, rfl⟩, ⟨v4, hw⟩, hb, hf⟩
  have HW4 := Aside0.mk hw
  have HB4 := Aside0.mk (below_trans HB3.out hb)
  have HF4 := Aside0.mk (HF3.out.trans hf)
  have HR4 := Aside0.mk (hf R _ _ HR3.out (by decide) HRG.out.1)
  clear hw hb hf HW3 HB3 HF3 HR3 HZ3
  have r1 := (blk_cell HR4.out 1).trans rfl
  have f1 := blk_frozen HR4.out 1
  go_upto_region 23 with fail
  clear r1 f1
  have HW5 := Aside0.mk (show Wr (w4.setCell ⟨R, 1, none⟩ (.string ⟨#[]⟩)) B g v4 (tB 1 255 s (bs ++ be 1 3)) (tBad 255 s false) from
    ⟨(Below.heap_setCell w4 ⟨R, 1, none⟩ _ g (fun e => HRG.out.1 e.symm)).trans HW4.out.ex, Kd.R_set HW4.out.row HR4.out (by decide) 1 _, HW4.out.base⟩)
  have HR5 := Aside0.mk (blk_put HR4.out 1 (.string ⟨#[]⟩) rfl)
  have HB5 := Aside0.mk (below_setB (p := ⟨R, 1, none⟩) HB4.out HRG.out.2.2 (.string ⟨#[]⟩))
  have HF5 := Aside0.mk (show Fr g w (w4.setCell ⟨R, 1, none⟩ (.string ⟨#[]⟩)) from fun i cs t h1 h2 h3 =>
    (Below.heap_setCell w4 ⟨R, 1, none⟩ _ i (by have := blk_lt h1; have := HNW.out; show i ≠ R; omega)).trans (HF4.out i cs t h1 h2 h3))
  clear HW4 HR4 HB4 HF4
  generalize w4.setCell ⟨R, 1, none⟩ (.string ⟨#[]⟩) = w5 at HW5 HR5 HB5 HF5 ⊢
  have hbad : tBad 255 s false = false := by unfold tBad; exact if_neg (by omega)
  rw [hbad] at HW5
  have g1 := (blk_cell HW5.out.ex 1).trans rfl
  have f1 := blk_frozen HW5.out.ex 1
  have r0 := (blk_cell HR5.out 0).trans rfl
  have r1 := (blk_cell HR5.out 1).trans rfl
  have r2 := (blk_cell HR5.out 2).trans rfl
  have r3 := (blk_cell HR5.out 3).trans rfl
  have he := fun d W => eqA52 d W 0 0 ⟨#[]⟩ ⟨#[]⟩ ⟨#[]⟩ ⟨#[]⟩ 0 0
  have HBD := Aside0.mk hbad
  clear hbad
  go_wp2_with fail
  exact bodyPost_end (results_none rfl _ _ _) rfl ⟨⟨_, rfl⟩, ⟨v4, by rw [HBD.out]; exact HW5.out.spoil false⟩, below_setB HB5.out HW5.out.base _, HF5.out.trans (Fr.set g 1 _ _)⟩
end Go.Proofs.Ytfpdapdnmkadeaa.Wire
