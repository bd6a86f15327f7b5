/- What writes an op. -/
import Derived.Test.YtfpdapdnmkadeaaWireA
import Derived.Test.YtfpdapdnmkadeaaO1
namespace Go.Proofs.Ytfpdapdnmkadeaa.Wire
open Go.RowKit Go.Proofs.YtfpdapdnmkadeaaW.PrintWords Go.Proofs.YtfpdapdnmkadeaaW.PrintLast Go.Proofs.YtfpdapdnmkadeaaW.PrintMore
open Go.Proofs.Ytfpdapdnmkadeaa Go.Proofs.Ytfpdapdnmkadeaa.Vals Go.Proofs.Ytfpdapdnmkadeaa.Word Go.Proofs.Ytfpdapdnmkadeaa.Q
open Go.Proofs.Ytfpdapdnmkadeaa.O (S52 k52 z52 rd_T52 at_T52)
set_option linter.unusedVariables false
set_option linter.unusedSimpArgs false

theorem Wr.setR {w : World} {B g : Nat} {v : Value} {bs : List Int} {bad : Bool} (h : Wr w B g v bs bad) {R : Nat} {cs : Array Value} {t : TypeId} (hr : w.heap[R]? = some (.cells cs t (0, 0))) (ht : ∀ q, q ∈ 5 :: (Kd.int .u8).E → q ≠ t) (hg : R ≠ g) (j : Nat) (u : Value) :
    Wr (w.setCell ⟨R, j, none⟩ u) B g v bs bad := ⟨(Below.heap_setCell w ⟨R, j, none⟩ u g (fun e => hg e.symm)).trans h.ex, Kd.R_set h.row hr ht j _, h.base⟩
theorem Fr.setR {g : Nat} {w0 w : World} (h : Fr g w0 w) {R : Nat} (hR : w0.heap.size ≤ R) (j : Nat) (u : Value) : Fr g w0 (w.setCell ⟨R, j, none⟩ u) := fun i cs t h1 h2 h3 =>
  (Below.heap_setCell w ⟨R, j, none⟩ u i (by have := blk_lt h1; show i ≠ R; omega)).trans (h i cs t h1 h2 h3)
def restBad (s v : ByteArray) (n : Int) : Bool := !(s.toList == [] && (v.toList == [] && n == 0))
def oB (o : S52) (bs : List Int) : List Int := let b := bs ++ be 1 (IntKind.u64.wrap o.f0)
  if o.f0 = 1 then tB 2 65535 o.f2 (tB 1 255 o.f1 b) else if o.f0 = 2 ∨ o.f0 = 3 then tB 1 255 o.f1 b else if o.f0 = 4 then tB 1 255 o.f2 (tB 1 255 o.f1 b) ++ be 4 (IntKind.u64.wrap o.f3) else b
def oBad (o : S52) (bad : Bool) : Bool :=
  if o.f0 = 1 then tBad 65535 o.f2 (tBad 255 o.f1 bad) || restBad ⟨#[]⟩ ⟨#[]⟩ o.f3 else if o.f0 = 2 ∨ o.f0 = 3 then tBad 255 o.f1 bad || restBad ⟨#[]⟩ o.f2 o.f3
  else if o.f0 = 4 then tBad 255 o.f2 (tBad 255 o.f1 bad) || (decide (o.f3 < 0) || decide (2147483647 < o.f3)) else if o.f0 = 5 ∨ o.f0 = 6 ∨ o.f0 = 7 then bad || restBad o.f1 o.f2 o.f3 else true
theorem oB_len (o : S52) (bs : List Int) : (oB o bs).length ≤ bs.length + 65800 := by
  have hb : (bs ++ be 1 (IntKind.u64.wrap o.f0)).length = bs.length + 1 := by rw [List.length_append, be_length]
  unfold oB
  generalize bs ++ be 1 (IntKind.u64.wrap o.f0) = b at hb
  have h1 := tB_len 1 (most := 255) o.f1 b
  have h2 := tB_len 2 (most := 65535) o.f2 (tB 1 255 o.f1 b)
  have h3 := tB_len 1 (most := 255) o.f2 (tB 1 255 o.f1 b)
  rw [if_neg (by decide)] at h1 h2 h3
  show List.length (if _ then _ else _) ≤ _
  split
  · omega
  · split
    · omega
    · split
      · rw [List.length_append, be_length]; omega
      · omega

set_option maxHeartbeats 8000000 in
set_option maxRecDepth 100000 in
theorem op_put {w : World} {B g : Nat} {v : Value} {bs : List Int} {bad : Bool} (h : Wr w B g v bs bad) (hl : bs.length ≤ 1099511627776 - 100000)  (s t : ByteArray) (n : Int) :
    Calls Try.prog 36 #[.pointer (some ⟨g, 0, none⟩), .agg #[.int .i64 1, .string s, .string t, .int .i64 n]] w (WPost w B g (oB ⟨1, s, t, n⟩ bs) (oBad ⟨1, s, t, n⟩ bad)) := by
  have HK0 := Aside0.mk (show oB ⟨1, s, t, n⟩ bs = tB 2 65535 t (tB 1 255 s (bs ++ be 1 (IntKind.u64.wrap 1))) by rfl)
  have HK1 := Aside0.mk (show oBad ⟨1, s, t, n⟩ bad = (tBad 65535 t (tBad 255 s bad) || restBad ⟨#[]⟩ ⟨#[]⟩ n) by rfl)
  have HZ := Aside0.mk (blk_new w (.cells #[.int .i64 1, .string s, .string t, .int .i64 n] 52))
  have HB := Aside0.mk (below_low (below_alloc (Below.refl w.heap.size w) (.cells #[.int .i64 1, .string s, .string t, .int .i64 n] 52)) h.low)
  have HF := Aside0.mk (Fr.below g (below_alloc (Below.refl w.heap.size w) (.cells #[.int .i64 1, .string s, .string t, .int .i64 n] 52)))
  have HW := Aside0.mk (h.below (below_alloc (Below.refl _ _) (.cells #[.int .i64 1, .string s, .string t, .int .i64 n] 52)))
  have HGZ := Aside0.mk (show w.heap.size ≠ g from Nat.ne_of_gt h.lt)
  have HL := Aside0.mk hl
  clear h hl
  go_enter Try.func36, Try.ntmps36
  go_upto_region 1 with fail
  generalize w.alloc (.cells #[.int .i64 1, .string s, .string t, .int .i64 n] 52) = w1 at HZ HB HF HW ⊢
  generalize w.heap.size = S at HZ HGZ ⊢
  have k0 := (blk_cell HZ.out 0).trans rfl
  go_wp2_with fail
  clear k0
  refine (num_calls HW.out (by have := HL.out; omega) (n := 1) (by decide) (x := IntKind.u64.wrap 1) (wrap_bd 1)).mono ?_
  rintro en w2 ⟨⟨u, rfl⟩, ⟨v2, hw⟩, hb, hf⟩
  have HW2 := Aside0.mk hw
  have HB2 := Aside0.mk (below_trans HB.out hb)
  have HF2 := Aside0.mk (HF.out.trans hf)
  have HZ2 := Aside0.mk (hf S _ _ HZ.out (by decide) HGZ.out)
  clear hw hb hf HW HB HF HZ
  have k0 := (blk_cell HZ2.out 0).trans rfl
  have k1 := (blk_cell HZ2.out 1).trans rfl
  have k2 := (blk_cell HZ2.out 2).trans rfl
  have k3 := (blk_cell HZ2.out 3).trans rfl
  go_upto_region 4 with fail
  clear k0 k1 k2 k3
  have HR := Aside0.mk (blk_new w2 (.cells #[.int .i64 0, .string s, .string t, .int .i64 n] 52))
  have HW := Aside0.mk (HW2.out.below (below_alloc (Below.refl _ _) (.cells #[.int .i64 0, .string s, .string t, .int .i64 n] 52)))
  have HB := Aside0.mk (below_trans HB2.out (below_low (below_alloc (Below.refl w2.heap.size w2) (.cells #[.int .i64 0, .string s, .string t, .int .i64 n] 52)) HW2.out.low))
  have HF := Aside0.mk (HF2.out.trans (Fr.below g (below_alloc (Below.refl w2.heap.size w2) (.cells #[.int .i64 0, .string s, .string t, .int .i64 n] 52))))
  have HZ := Aside0.mk (blk_below HZ2.out (below_alloc (Below.refl w2.heap.size w2) (.cells #[.int .i64 0, .string s, .string t, .int .i64 n] 52)))
  have HRG := Aside0.mk (show w2.heap.size ≠ g ∧ w2.heap.size ≠ S ∧ B ≤ w2.heap.size from ⟨Nat.ne_of_gt HW2.out.lt, Nat.ne_of_gt (blk_lt HZ2.out), HW2.out.low⟩)
  have HNW := Aside0.mk (show w.heap.size ≤ w2.heap.size from HB2.out.size)
  clear HW2 HB2 HF2 HZ2
  generalize w2.alloc (.cells #[.int .i64 0, .string s, .string t, .int .i64 n] 52) = w3 at HR HW HB HF HZ ⊢
  generalize w2.heap.size = R at HR HRG HNW ⊢
  have HL1 := Aside0.mk (show (bs ++ be 1 (IntKind.u64.wrap 1)).length ≤ 1099511627776 - 99999 by rw [List.length_append, be_length]; have := HL.out; omega)
  generalize bs ++ be 1 (IntKind.u64.wrap 1) = b at HL1 HW HK0
  have k0 := (blk_cell HZ.out 0).trans rfl
  have k1 := (blk_cell HZ.out 1).trans rfl
  go_wp2_with fail
  clear k1
  refine (short_calls HW.out (by have := HL1.out; omega) s).mono ?_
  rintro en wn ⟨⟨un, rfl⟩, ⟨vn, hw⟩, hb, hf⟩
  have HW1 := Aside0.mk hw
  have HB1 := Aside0.mk (below_trans HB.out hb)
  have HF1 := Aside0.mk (HF.out.trans hf)
  have HZ1 := Aside0.mk (hf S _ _ HZ.out (by decide) HGZ.out)
  have HR1 := Aside0.mk (hf R _ _ HR.out (by decide) HRG.out.1)
  have HL2 := Aside0.mk (show (tB 1 255 s b).length ≤ 1099511627776 - 99000 by
    have h1 := tB_len 1 (most := 255) s (b)
    rw [if_neg (by decide)] at h1
    have h2 := HL1.out
    omega)
  clear hw hb hf HW HB HF HR HZ
  have HW := HW1
  have HB := HB1
  have HF := HF1
  have HZ := HZ1
  have HR := HR1
  clear HW1 HB1 HF1 HZ1 HR1
  have k2 := (blk_cell HZ.out 2).trans rfl
  go_wp2_with fail
  clear k2
  refine (long_calls HW.out (by have := HL2.out; omega) t).mono ?_
  rintro en wn ⟨⟨un, rfl⟩, ⟨vn, hw⟩, hb, hf⟩
  have HW1 := Aside0.mk hw
  have HB1 := Aside0.mk (below_trans HB.out hb)
  have HF1 := Aside0.mk (HF.out.trans hf)
  have HZ1 := Aside0.mk (hf S _ _ HZ.out (by decide) HGZ.out)
  have HR1 := Aside0.mk (hf R _ _ HR.out (by decide) HRG.out.1)
  have HL3 := Aside0.mk (show (tB 2 65535 t (tB 1 255 s b)).length ≤ 1099511627776 - 33000 by
    have h1 := tB_len 2 (most := 65535) t (tB 1 255 s b)
    rw [if_neg (by decide)] at h1
    have h2 := HL2.out
    omega)
  clear hw hb hf HW HB HF HR HZ
  have HW := HW1
  have HB := HB1
  have HF := HF1
  have HZ := HZ1
  have HR := HR1
  clear HW1 HB1 HF1 HZ1 HR1
  have r1 := (blk_cell HR.out 1).trans rfl
  have f1 := blk_frozen HR.out 1
  have r2 := (blk_cell HR.out 2).trans rfl
  have f2 := blk_frozen HR.out 2
  go_upto_region 23 with fail
  clear r1 f1
  clear r2 f2
  have HW1 := Aside0.mk (HW.out.setR HR.out (by decide) HRG.out.1 1 (.string ⟨#[]⟩))
  have HR1 := Aside0.mk (blk_put (cs' := #[.int .i64 0, .string ⟨#[]⟩, .string t, .int .i64 n]) HR.out 1 (.string ⟨#[]⟩) rfl)
  have HB1 := Aside0.mk (below_setB (p := ⟨R, 1, none⟩) HB.out HRG.out.2.2 (.string ⟨#[]⟩))
  have HF1 := Aside0.mk (HF.out.setR HNW.out 1 (.string ⟨#[]⟩))
  clear HW HR HB HF
  have HW := HW1
  have HB := HB1
  have HF := HF1
  have HR := HR1
  clear HW1 HB1 HF1 HR1
  have HW1 := Aside0.mk (HW.out.setR HR.out (by decide) HRG.out.1 2 (.string ⟨#[]⟩))
  have HR1 := Aside0.mk (blk_put (cs' := #[.int .i64 0, .string ⟨#[]⟩, .string ⟨#[]⟩, .int .i64 n]) HR.out 2 (.string ⟨#[]⟩) rfl)
  have HB1 := Aside0.mk (below_setB (p := ⟨R, 2, none⟩) HB.out HRG.out.2.2 (.string ⟨#[]⟩))
  have HF1 := Aside0.mk (HF.out.setR HNW.out 2 (.string ⟨#[]⟩))
  clear HW HR HB HF
  have HW := HW1
  have HB := HB1
  have HF := HF1
  have HR := HR1
  clear HW1 HB1 HF1 HR1
  generalize (wn.setCell ⟨R, 1, none⟩ (.string ⟨#[]⟩)).setCell ⟨R, 2, none⟩ (.string ⟨#[]⟩) = wf at HW HR HB HF ⊢
  have g1 := (blk_cell HW.out.ex 1).trans rfl
  have f1 := blk_frozen HW.out.ex 1
  have r0 := (blk_cell HR.out 0).trans rfl
  have r1 := (blk_cell HR.out 1).trans rfl
  have r2 := (blk_cell HR.out 2).trans rfl
  have r3 := (blk_cell HR.out 3).trans rfl
  have he := fun d W => Go.Proofs.Ytfpdapdnmkadeaa.O.eqA52 d W 0 0 ⟨#[]⟩ ⟨#[]⟩ ⟨#[]⟩ ⟨#[]⟩ n 0
  generalize hbd : (tBad 65535 t (tBad 255 s bad)) = bd at g1 f1 HK1
  have HBD := Aside0.mk hbd
  clear hbd
  cases bd
  · go_wp2_with fail
    exact bodyPost_end (results_none rfl _ _ _) rfl ⟨⟨_, rfl⟩, ⟨_, by rw [HK0.out, HK1.out]; exact (by have h1 := HW.out.spoil (false || restBad ⟨#[]⟩ ⟨#[]⟩ n); simpa [restBad] using h1)⟩, below_setB HB.out HW.out.base _, HF.out.trans (Fr.set g 1 _ _)⟩
  · go_wp2_with fail
    exact bodyPost_end (results_none rfl _ _ _) rfl ⟨⟨_, rfl⟩, ⟨_, by rw [HK0.out, HK1.out]; exact (HW.out.spoil _)⟩, below_setB HB.out HW.out.base _, HF.out.trans (Fr.set g 1 _ _)⟩

set_option maxHeartbeats 8000000 in
set_option maxRecDepth 100000 in
theorem op_del {w : World} {B g : Nat} {v : Value} {bs : List Int} {bad : Bool} (h : Wr w B g v bs bad) (hl : bs.length ≤ 1099511627776 - 100000)  (s t : ByteArray) (n : Int) :
    Calls Try.prog 36 #[.pointer (some ⟨g, 0, none⟩), .agg #[.int .i64 2, .string s, .string t, .int .i64 n]] w (WPost w B g (oB ⟨2, s, t, n⟩ bs) (oBad ⟨2, s, t, n⟩ bad)) := by
  have HK0 := Aside0.mk (show oB ⟨2, s, t, n⟩ bs = tB 1 255 s (bs ++ be 1 (IntKind.u64.wrap 2)) by rfl)
  have HK1 := Aside0.mk (show oBad ⟨2, s, t, n⟩ bad = (tBad 255 s bad || restBad ⟨#[]⟩ t n) by rfl)
  have HZ := Aside0.mk (blk_new w (.cells #[.int .i64 2, .string s, .string t, .int .i64 n] 52))
  have HB := Aside0.mk (below_low (below_alloc (Below.refl w.heap.size w) (.cells #[.int .i64 2, .string s, .string t, .int .i64 n] 52)) h.low)
  have HF := Aside0.mk (Fr.below g (below_alloc (Below.refl w.heap.size w) (.cells #[.int .i64 2, .string s, .string t, .int .i64 n] 52)))
  have HW := Aside0.mk (h.below (below_alloc (Below.refl _ _) (.cells #[.int .i64 2, .string s, .string t, .int .i64 n] 52)))
  have HGZ := Aside0.mk (show w.heap.size ≠ g from Nat.ne_of_gt h.lt)
  have HL := Aside0.mk hl
  clear h hl
  go_enter Try.func36, Try.ntmps36
  go_upto_region 1 with fail
  generalize w.alloc (.cells #[.int .i64 2, .string s, .string t, .int .i64 n] 52) = w1 at HZ HB HF HW ⊢
  generalize w.heap.size = S at HZ HGZ ⊢
  have k0 := (blk_cell HZ.out 0).trans rfl
  go_wp2_with fail
  clear k0
  refine (num_calls HW.out (by have := HL.out; omega) (n := 1) (by decide) (x := IntKind.u64.wrap 2) (wrap_bd 2)).mono ?_
  rintro en w2 ⟨⟨u, rfl⟩, ⟨v2, hw⟩, hb, hf⟩
  have HW2 := Aside0.mk hw
  have HB2 := Aside0.mk (below_trans HB.out hb)
  have HF2 := Aside0.mk (HF.out.trans hf)
  have HZ2 := Aside0.mk (hf S _ _ HZ.out (by decide) HGZ.out)
  clear hw hb hf HW HB HF HZ
  have k0 := (blk_cell HZ2.out 0).trans rfl
  have k1 := (blk_cell HZ2.out 1).trans rfl
  have k2 := (blk_cell HZ2.out 2).trans rfl
  have k3 := (blk_cell HZ2.out 3).trans rfl
  go_upto_region 4 with fail
  clear k0 k1 k2 k3
  have HR := Aside0.mk (blk_new w2 (.cells #[.int .i64 0, .string s, .string t, .int .i64 n] 52))
  have HW := Aside0.mk (HW2.out.below (below_alloc (Below.refl _ _) (.cells #[.int .i64 0, .string s, .string t, .int .i64 n] 52)))
  have HB := Aside0.mk (below_trans HB2.out (below_low (below_alloc (Below.refl w2.heap.size w2) (.cells #[.int .i64 0, .string s, .string t, .int .i64 n] 52)) HW2.out.low))
  have HF := Aside0.mk (HF2.out.trans (Fr.below g (below_alloc (Below.refl w2.heap.size w2) (.cells #[.int .i64 0, .string s, .string t, .int .i64 n] 52))))
  have HZ := Aside0.mk (blk_below HZ2.out (below_alloc (Below.refl w2.heap.size w2) (.cells #[.int .i64 0, .string s, .string t, .int .i64 n] 52)))
  have HRG := Aside0.mk (show w2.heap.size ≠ g ∧ w2.heap.size ≠ S ∧ B ≤ w2.heap.size from ⟨Nat.ne_of_gt HW2.out.lt, Nat.ne_of_gt (blk_lt HZ2.out), HW2.out.low⟩)
  have HNW := Aside0.mk (show w.heap.size ≤ w2.heap.size from HB2.out.size)
  clear HW2 HB2 HF2 HZ2
  generalize w2.alloc (.cells #[.int .i64 0, .string s, .string t, .int .i64 n] 52) = w3 at HR HW HB HF HZ ⊢
  generalize w2.heap.size = R at HR HRG HNW ⊢
  have HL1 := Aside0.mk (show (bs ++ be 1 (IntKind.u64.wrap 2)).length ≤ 1099511627776 - 99999 by rw [List.length_append, be_length]; have := HL.out; omega)
  generalize bs ++ be 1 (IntKind.u64.wrap 2) = b at HL1 HW HK0
  have k0 := (blk_cell HZ.out 0).trans rfl
  have k1 := (blk_cell HZ.out 1).trans rfl
  go_wp2_with fail
  clear k1
  refine (short_calls HW.out (by have := HL1.out; omega) s).mono ?_
  rintro en wn ⟨⟨un, rfl⟩, ⟨vn, hw⟩, hb, hf⟩
  have HW1 := Aside0.mk hw
  have HB1 := Aside0.mk (below_trans HB.out hb)
  have HF1 := Aside0.mk (HF.out.trans hf)
  have HZ1 := Aside0.mk (hf S _ _ HZ.out (by decide) HGZ.out)
  have HR1 := Aside0.mk (hf R _ _ HR.out (by decide) HRG.out.1)
  have HL2 := Aside0.mk (show (tB 1 255 s b).length ≤ 1099511627776 - 99000 by
    have h1 := tB_len 1 (most := 255) s (b)
    rw [if_neg (by decide)] at h1
    have h2 := HL1.out
    omega)
  clear hw hb hf HW HB HF HR HZ
  have HW := HW1
  have HB := HB1
  have HF := HF1
  have HZ := HZ1
  have HR := HR1
  clear HW1 HB1 HF1 HZ1 HR1
  have r1 := (blk_cell HR.out 1).trans rfl
  have f1 := blk_frozen HR.out 1
  go_upto_region 23 with fail
  clear r1 f1
  have HW1 := Aside0.mk (HW.out.setR HR.out (by decide) HRG.out.1 1 (.string ⟨#[]⟩))
  have HR1 := Aside0.mk (blk_put (cs' := #[.int .i64 0, .string ⟨#[]⟩, .string t, .int .i64 n]) HR.out 1 (.string ⟨#[]⟩) rfl)
  have HB1 := Aside0.mk (below_setB (p := ⟨R, 1, none⟩) HB.out HRG.out.2.2 (.string ⟨#[]⟩))
  have HF1 := Aside0.mk (HF.out.setR HNW.out 1 (.string ⟨#[]⟩))
  clear HW HR HB HF
  have HW := HW1
  have HB := HB1
  have HF := HF1
  have HR := HR1
  clear HW1 HB1 HF1 HR1
  generalize wn.setCell ⟨R, 1, none⟩ (.string ⟨#[]⟩) = wf at HW HR HB HF ⊢
  have g1 := (blk_cell HW.out.ex 1).trans rfl
  have f1 := blk_frozen HW.out.ex 1
  have r0 := (blk_cell HR.out 0).trans rfl
  have r1 := (blk_cell HR.out 1).trans rfl
  have r2 := (blk_cell HR.out 2).trans rfl
  have r3 := (blk_cell HR.out 3).trans rfl
  have he := fun d W => Go.Proofs.Ytfpdapdnmkadeaa.O.eqA52 d W 0 0 ⟨#[]⟩ ⟨#[]⟩ t ⟨#[]⟩ n 0
  generalize hbd : (tBad 255 s bad) = bd at g1 f1 HK1
  have HBD := Aside0.mk hbd
  clear hbd
  cases bd
  · go_wp2_with fail
    exact bodyPost_end (results_none rfl _ _ _) rfl ⟨⟨_, rfl⟩, ⟨_, by rw [HK0.out, HK1.out]; exact (by have h1 := HW.out.spoil (false || restBad ⟨#[]⟩ t n); simpa [restBad] using h1)⟩, below_setB HB.out HW.out.base _, HF.out.trans (Fr.set g 1 _ _)⟩
  · go_wp2_with fail
    exact bodyPost_end (results_none rfl _ _ _) rfl ⟨⟨_, rfl⟩, ⟨_, by rw [HK0.out, HK1.out]; exact (HW.out.spoil _)⟩, below_setB HB.out HW.out.base _, HF.out.trans (Fr.set g 1 _ _)⟩

set_option maxHeartbeats 8000000 in
set_option maxRecDepth 100000 in
theorem op_get {w : World} {B g : Nat} {v : Value} {bs : List Int} {bad : Bool} (h : Wr w B g v bs bad) (hl : bs.length ≤ 1099511627776 - 100000)  (s t : ByteArray) (n : Int) :
    Calls Try.prog 36 #[.pointer (some ⟨g, 0, none⟩), .agg #[.int .i64 3, .string s, .string t, .int .i64 n]] w (WPost w B g (oB ⟨3, s, t, n⟩ bs) (oBad ⟨3, s, t, n⟩ bad)) := by
  have HK0 := Aside0.mk (show oB ⟨3, s, t, n⟩ bs = tB 1 255 s (bs ++ be 1 (IntKind.u64.wrap 3)) by rfl)
  have HK1 := Aside0.mk (show oBad ⟨3, s, t, n⟩ bad = (tBad 255 s bad || restBad ⟨#[]⟩ t n) by rfl)
  have HZ := Aside0.mk (blk_new w (.cells #[.int .i64 3, .string s, .string t, .int .i64 n] 52))
  have HB := Aside0.mk (below_low (below_alloc (Below.refl w.heap.size w) (.cells #[.int .i64 3, .string s, .string t, .int .i64 n] 52)) h.low)
  have HF := Aside0.mk (Fr.below g (below_alloc (Below.refl w.heap.size w) (.cells #[.int .i64 3, .string s, .string t, .int .i64 n] 52)))
  have HW := Aside0.mk (h.below (below_alloc (Below.refl _ _) (.cells #[.int .i64 3, .string s, .string t, .int .i64 n] 52)))
  have HGZ := Aside0.mk (show w.heap.size ≠ g from Nat.ne_of_gt h.lt)
  have HL := Aside0.mk hl
  clear h hl
  go_enter Try.func36, Try.ntmps36
  go_upto_region 1 with fail
  generalize w.alloc (.cells #[.int .i64 3, .string s, .string t, .int .i64 n] 52) = w1 at HZ HB HF HW ⊢
  generalize w.heap.size = S at HZ HGZ ⊢
  have k0 := (blk_cell HZ.out 0).trans rfl
  go_wp2_with fail
  clear k0
  refine (num_calls HW.out (by have := HL.out; omega) (n := 1) (by decide) (x := IntKind.u64.wrap 3) (wrap_bd 3)).mono ?_
  rintro en w2 ⟨⟨u, rfl⟩, ⟨v2, hw⟩, hb, hf⟩
  have HW2 := Aside0.mk hw
  have HB2 := Aside0.mk (below_trans HB.out hb)
  have HF2 := Aside0.mk (HF.out.trans hf)
  have HZ2 := Aside0.mk (hf S _ _ HZ.out (by decide) HGZ.out)
  clear hw hb hf HW HB HF HZ
  have k0 := (blk_cell HZ2.out 0).trans rfl
  have k1 := (blk_cell HZ2.out 1).trans rfl
  have k2 := (blk_cell HZ2.out 2).trans rfl
  have k3 := (blk_cell HZ2.out 3).trans rfl
  go_upto_region 4 with fail
  clear k0 k1 k2 k3
  have HR := Aside0.mk (blk_new w2 (.cells #[.int .i64 0, .string s, .string t, .int .i64 n] 52))
  have HW := Aside0.mk (HW2.out.below (below_alloc (Below.refl _ _) (.cells #[.int .i64 0, .string s, .string t, .int .i64 n] 52)))
  have HB := Aside0.mk (below_trans HB2.out (below_low (below_alloc (Below.refl w2.heap.size w2) (.cells #[.int .i64 0, .string s, .string t, .int .i64 n] 52)) HW2.out.low))
  have HF := Aside0.mk (HF2.out.trans (Fr.below g (below_alloc (Below.refl w2.heap.size w2) (.cells #[.int .i64 0, .string s, .string t, .int .i64 n] 52))))
  have HZ := Aside0.mk (blk_below HZ2.out (below_alloc (Below.refl w2.heap.size w2) (.cells #[.int .i64 0, .string s, .string t, .int .i64 n] 52)))
  have HRG := Aside0.mk (show w2.heap.size ≠ g ∧ w2.heap.size ≠ S ∧ B ≤ w2.heap.size from ⟨Nat.ne_of_gt HW2.out.lt, Nat.ne_of_gt (blk_lt HZ2.out), HW2.out.low⟩)
  have HNW := Aside0.mk (show w.heap.size ≤ w2.heap.size from HB2.out.size)
  clear HW2 HB2 HF2 HZ2
  generalize w2.alloc (.cells #[.int .i64 0, .string s, .string t, .int .i64 n] 52) = w3 at HR HW HB HF HZ ⊢
  generalize w2.heap.size = R at HR HRG HNW ⊢
  have HL1 := Aside0.mk (show (bs ++ be 1 (IntKind.u64.wrap 3)).length ≤ 1099511627776 - 99999 by rw [List.length_append, be_length]; have := HL.out; omega)
  generalize bs ++ be 1 (IntKind.u64.wrap 3) = b at HL1 HW HK0
  have k0 := (blk_cell HZ.out 0).trans rfl
  have k1 := (blk_cell HZ.out 1).trans rfl
  go_wp2_with fail
  clear k1
  refine (short_calls HW.out (by have := HL1.out; omega) s).mono ?_
  rintro en wn ⟨⟨un, rfl⟩, ⟨vn, hw⟩, hb, hf⟩
  have HW1 := Aside0.mk hw
  have HB1 := Aside0.mk (below_trans HB.out hb)
  have HF1 := Aside0.mk (HF.out.trans hf)
  have HZ1 := Aside0.mk (hf S _ _ HZ.out (by decide) HGZ.out)
  have HR1 := Aside0.mk (hf R _ _ HR.out (by decide) HRG.out.1)
  have HL2 := Aside0.mk (show (tB 1 255 s b).length ≤ 1099511627776 - 99000 by
    have h1 := tB_len 1 (most := 255) s (b)
    rw [if_neg (by decide)] at h1
    have h2 := HL1.out
    omega)
  clear hw hb hf HW HB HF HR HZ
  have HW := HW1
  have HB := HB1
  have HF := HF1
  have HZ := HZ1
  have HR := HR1
  clear HW1 HB1 HF1 HZ1 HR1
  have r1 := (blk_cell HR.out 1).trans rfl
  have f1 := blk_frozen HR.out 1
  go_upto_region 23 with fail
  clear r1 f1
  have HW1 := Aside0.mk (HW.out.setR HR.out (by decide) HRG.out.1 1 (.string ⟨#[]⟩))
  have HR1 := Aside0.mk (blk_put (cs' := #[.int .i64 0, .string ⟨#[]⟩, .string t, .int .i64 n]) HR.out 1 (.string ⟨#[]⟩) rfl)
  have HB1 := Aside0.mk (below_setB (p := ⟨R, 1, none⟩) HB.out HRG.out.2.2 (.string ⟨#[]⟩))
  have HF1 := Aside0.mk (HF.out.setR HNW.out 1 (.string ⟨#[]⟩))
  clear HW HR HB HF
  have HW := HW1
  have HB := HB1
  have HF := HF1
  have HR := HR1
  clear HW1 HB1 HF1 HR1
  generalize wn.setCell ⟨R, 1, none⟩ (.string ⟨#[]⟩) = wf at HW HR HB HF ⊢
  have g1 := (blk_cell HW.out.ex 1).trans rfl
  have f1 := blk_frozen HW.out.ex 1
  have r0 := (blk_cell HR.out 0).trans rfl
  have r1 := (blk_cell HR.out 1).trans rfl
  have r2 := (blk_cell HR.out 2).trans rfl
  have r3 := (blk_cell HR.out 3).trans rfl
  have he := fun d W => Go.Proofs.Ytfpdapdnmkadeaa.O.eqA52 d W 0 0 ⟨#[]⟩ ⟨#[]⟩ t ⟨#[]⟩ n 0
  generalize hbd : (tBad 255 s bad) = bd at g1 f1 HK1
  have HBD := Aside0.mk hbd
  clear hbd
  cases bd
  · go_wp2_with fail
    exact bodyPost_end (results_none rfl _ _ _) rfl ⟨⟨_, rfl⟩, ⟨_, by rw [HK0.out, HK1.out]; exact (by have h1 := HW.out.spoil (false || restBad ⟨#[]⟩ t n); simpa [restBad] using h1)⟩, below_setB HB.out HW.out.base _, HF.out.trans (Fr.set g 1 _ _)⟩
  · go_wp2_with fail
    exact bodyPost_end (results_none rfl _ _ _) rfl ⟨⟨_, rfl⟩, ⟨_, by rw [HK0.out, HK1.out]; exact (HW.out.spoil _)⟩, below_setB HB.out HW.out.base _, HF.out.trans (Fr.set g 1 _ _)⟩

set_option maxHeartbeats 8000000 in
set_option maxRecDepth 100000 in
theorem op_sync {w : World} {B g : Nat} {v : Value} {bs : List Int} {bad : Bool} (h : Wr w B g v bs bad) (hl : bs.length ≤ 1099511627776 - 100000)  (s t : ByteArray) (n : Int) :
    Calls Try.prog 36 #[.pointer (some ⟨g, 0, none⟩), .agg #[.int .i64 5, .string s, .string t, .int .i64 n]] w (WPost w B g (oB ⟨5, s, t, n⟩ bs) (oBad ⟨5, s, t, n⟩ bad)) := by
  have HK0 := Aside0.mk (show oB ⟨5, s, t, n⟩ bs = (bs ++ be 1 (IntKind.u64.wrap 5)) by rfl)
  have HK1 := Aside0.mk (show oBad ⟨5, s, t, n⟩ bad = (bad || restBad s t n) by rfl)
  have HZ := Aside0.mk (blk_new w (.cells #[.int .i64 5, .string s, .string t, .int .i64 n] 52))
  have HB := Aside0.mk (below_low (below_alloc (Below.refl w.heap.size w) (.cells #[.int .i64 5, .string s, .string t, .int .i64 n] 52)) h.low)
  have HF := Aside0.mk (Fr.below g (below_alloc (Below.refl w.heap.size w) (.cells #[.int .i64 5, .string s, .string t, .int .i64 n] 52)))
  have HW := Aside0.mk (h.below (below_alloc (Below.refl _ _) (.cells #[.int .i64 5, .string s, .string t, .int .i64 n] 52)))
  have HGZ := Aside0.mk (show w.heap.size ≠ g from Nat.ne_of_gt h.lt)
  have HL := Aside0.mk hl
  clear h hl
  go_enter Try.func36, Try.ntmps36
  go_upto_region 1 with fail
  generalize w.alloc (.cells #[.int .i64 5, .string s, .string t, .int .i64 n] 52) = w1 at HZ HB HF HW ⊢
  generalize w.heap.size = S at HZ HGZ ⊢
  have k0 := (blk_cell HZ.out 0).trans rfl
  go_wp2_with fail
  clear k0
  refine (num_calls HW.out (by have := HL.out; omega) (n := 1) (by decide) (x := IntKind.u64.wrap 5) (wrap_bd 5)).mono ?_
  rintro en w2 ⟨⟨u, rfl⟩, ⟨v2, hw⟩, hb, hf⟩
  have HW2 := Aside0.mk hw
  have HB2 := Aside0.mk (below_trans HB.out hb)
  have HF2 := Aside0.mk (HF.out.trans hf)
  have HZ2 := Aside0.mk (hf S _ _ HZ.out (by decide) HGZ.out)
  clear hw hb hf HW HB HF HZ
  have k0 := (blk_cell HZ2.out 0).trans rfl
  have k1 := (blk_cell HZ2.out 1).trans rfl
  have k2 := (blk_cell HZ2.out 2).trans rfl
  have k3 := (blk_cell HZ2.out 3).trans rfl
  go_upto_region 4 with fail
  clear k0 k1 k2 k3
  have HR := Aside0.mk (blk_new w2 (.cells #[.int .i64 0, .string s, .string t, .int .i64 n] 52))
  have HW := Aside0.mk (HW2.out.below (below_alloc (Below.refl _ _) (.cells #[.int .i64 0, .string s, .string t, .int .i64 n] 52)))
  have HB := Aside0.mk (below_trans HB2.out (below_low (below_alloc (Below.refl w2.heap.size w2) (.cells #[.int .i64 0, .string s, .string t, .int .i64 n] 52)) HW2.out.low))
  have HF := Aside0.mk (HF2.out.trans (Fr.below g (below_alloc (Below.refl w2.heap.size w2) (.cells #[.int .i64 0, .string s, .string t, .int .i64 n] 52))))
  have HZ := Aside0.mk (blk_below HZ2.out (below_alloc (Below.refl w2.heap.size w2) (.cells #[.int .i64 0, .string s, .string t, .int .i64 n] 52)))
  have HRG := Aside0.mk (show w2.heap.size ≠ g ∧ w2.heap.size ≠ S ∧ B ≤ w2.heap.size from ⟨Nat.ne_of_gt HW2.out.lt, Nat.ne_of_gt (blk_lt HZ2.out), HW2.out.low⟩)
  have HNW := Aside0.mk (show w.heap.size ≤ w2.heap.size from HB2.out.size)
  clear HW2 HB2 HF2 HZ2
  generalize w2.alloc (.cells #[.int .i64 0, .string s, .string t, .int .i64 n] 52) = w3 at HR HW HB HF HZ ⊢
  generalize w2.heap.size = R at HR HRG HNW ⊢
  have HL1 := Aside0.mk (show (bs ++ be 1 (IntKind.u64.wrap 5)).length ≤ 1099511627776 - 99999 by rw [List.length_append, be_length]; have := HL.out; omega)
  generalize bs ++ be 1 (IntKind.u64.wrap 5) = b at HL1 HW HK0
  have k0 := (blk_cell HZ.out 0).trans rfl
  go_upto_region 23 with fail
  clear k0
  have g1 := (blk_cell HW.out.ex 1).trans rfl
  have f1 := blk_frozen HW.out.ex 1
  have r0 := (blk_cell HR.out 0).trans rfl
  have r1 := (blk_cell HR.out 1).trans rfl
  have r2 := (blk_cell HR.out 2).trans rfl
  have r3 := (blk_cell HR.out 3).trans rfl
  have he := fun d W => Go.Proofs.Ytfpdapdnmkadeaa.O.eqA52 d W 0 0 s ⟨#[]⟩ t ⟨#[]⟩ n 0
  generalize hbd : (bad) = bd at g1 f1 HK1
  have HBD := Aside0.mk hbd
  clear hbd
  cases bd
  · go_wp2_with fail
    exact bodyPost_end (results_none rfl _ _ _) rfl ⟨⟨_, rfl⟩, ⟨_, by rw [HK0.out, HK1.out]; exact (by have h1 := HW.out.spoil (false || restBad s t n); simpa [restBad] using h1)⟩, below_setB HB.out HW.out.base _, HF.out.trans (Fr.set g 1 _ _)⟩
  · go_wp2_with fail
    exact bodyPost_end (results_none rfl _ _ _) rfl ⟨⟨_, rfl⟩, ⟨_, by rw [HK0.out, HK1.out]; exact (HW.out.spoil _)⟩, below_setB HB.out HW.out.base _, HF.out.trans (Fr.set g 1 _ _)⟩

set_option maxHeartbeats 8000000 in
set_option maxRecDepth 100000 in
theorem op_reopen {w : World} {B g : Nat} {v : Value} {bs : List Int} {bad : Bool} (h : Wr w B g v bs bad) (hl : bs.length ≤ 1099511627776 - 100000)  (s t : ByteArray) (n : Int) :
    Calls Try.prog 36 #[.pointer (some ⟨g, 0, none⟩), .agg #[.int .i64 6, .string s, .string t, .int .i64 n]] w (WPost w B g (oB ⟨6, s, t, n⟩ bs) (oBad ⟨6, s, t, n⟩ bad)) := by
  have HK0 := Aside0.mk (show oB ⟨6, s, t, n⟩ bs = (bs ++ be 1 (IntKind.u64.wrap 6)) by rfl)
  have HK1 := Aside0.mk (show oBad ⟨6, s, t, n⟩ bad = (bad || restBad s t n) by rfl)
  have HZ := Aside0.mk (blk_new w (.cells #[.int .i64 6, .string s, .string t, .int .i64 n] 52))
  have HB := Aside0.mk (below_low (below_alloc (Below.refl w.heap.size w) (.cells #[.int .i64 6, .string s, .string t, .int .i64 n] 52)) h.low)
  have HF := Aside0.mk (Fr.below g (below_alloc (Below.refl w.heap.size w) (.cells #[.int .i64 6, .string s, .string t, .int .i64 n] 52)))
  have HW := Aside0.mk (h.below (below_alloc (Below.refl _ _) (.cells #[.int .i64 6, .string s, .string t, .int .i64 n] 52)))
  have HGZ := Aside0.mk (show w.heap.size ≠ g from Nat.ne_of_gt h.lt)
  have HL := Aside0.mk hl
  clear h hl
  go_enter Try.func36, Try.ntmps36
  go_upto_region 1 with fail
  generalize w.alloc (.cells #[.int .i64 6, .string s, .string t, .int .i64 n] 52) = w1 at HZ HB HF HW ⊢
  generalize w.heap.size = S at HZ HGZ ⊢
  have k0 := (blk_cell HZ.out 0).trans rfl
  go_wp2_with fail
  clear k0
  refine (num_calls HW.out (by have := HL.out; omega) (n := 1) (by decide) (x := IntKind.u64.wrap 6) (wrap_bd 6)).mono ?_
  rintro en w2 ⟨⟨u, rfl⟩, ⟨v2, hw⟩, hb, hf⟩
  have HW2 := Aside0.mk hw
  have HB2 := Aside0.mk (below_trans HB.out hb)
  have HF2 := Aside0.mk (HF.out.trans hf)
  have HZ2 := Aside0.mk (hf S _ _ HZ.out (by decide) HGZ.out)
  clear hw hb hf HW HB HF HZ
  have k0 := (blk_cell HZ2.out 0).trans rfl
  have k1 := (blk_cell HZ2.out 1).trans rfl
  have k2 := (blk_cell HZ2.out 2).trans rfl
  have k3 := (blk_cell HZ2.out 3).trans rfl
  go_upto_region 4 with fail
  clear k0 k1 k2 k3
  have HR := Aside0.mk (blk_new w2 (.cells #[.int .i64 0, .string s, .string t, .int .i64 n] 52))
  have HW := Aside0.mk (HW2.out.below (below_alloc (Below.refl _ _) (.cells #[.int .i64 0, .string s, .string t, .int .i64 n] 52)))
  have HB := Aside0.mk (below_trans HB2.out (below_low (below_alloc (Below.refl w2.heap.size w2) (.cells #[.int .i64 0, .string s, .string t, .int .i64 n] 52)) HW2.out.low))
  have HF := Aside0.mk (HF2.out.trans (Fr.below g (below_alloc (Below.refl w2.heap.size w2) (.cells #[.int .i64 0, .string s, .string t, .int .i64 n] 52))))
  have HZ := Aside0.mk (blk_below HZ2.out (below_alloc (Below.refl w2.heap.size w2) (.cells #[.int .i64 0, .string s, .string t, .int .i64 n] 52)))
  have HRG := Aside0.mk (show w2.heap.size ≠ g ∧ w2.heap.size ≠ S ∧ B ≤ w2.heap.size from ⟨Nat.ne_of_gt HW2.out.lt, Nat.ne_of_gt (blk_lt HZ2.out), HW2.out.low⟩)
  have HNW := Aside0.mk (show w.heap.size ≤ w2.heap.size from HB2.out.size)
  clear HW2 HB2 HF2 HZ2
  generalize w2.alloc (.cells #[.int .i64 0, .string s, .string t, .int .i64 n] 52) = w3 at HR HW HB HF HZ ⊢
  generalize w2.heap.size = R at HR HRG HNW ⊢
  have HL1 := Aside0.mk (show (bs ++ be 1 (IntKind.u64.wrap 6)).length ≤ 1099511627776 - 99999 by rw [List.length_append, be_length]; have := HL.out; omega)
  generalize bs ++ be 1 (IntKind.u64.wrap 6) = b at HL1 HW HK0
  have k0 := (blk_cell HZ.out 0).trans rfl
  go_upto_region 23 with fail
  clear k0
  have g1 := (blk_cell HW.out.ex 1).trans rfl
  have f1 := blk_frozen HW.out.ex 1
  have r0 := (blk_cell HR.out 0).trans rfl
  have r1 := (blk_cell HR.out 1).trans rfl
  have r2 := (blk_cell HR.out 2).trans rfl
  have r3 := (blk_cell HR.out 3).trans rfl
  have he := fun d W => Go.Proofs.Ytfpdapdnmkadeaa.O.eqA52 d W 0 0 s ⟨#[]⟩ t ⟨#[]⟩ n 0
  generalize hbd : (bad) = bd at g1 f1 HK1
  have HBD := Aside0.mk hbd
  clear hbd
  cases bd
  · go_wp2_with fail
    exact bodyPost_end (results_none rfl _ _ _) rfl ⟨⟨_, rfl⟩, ⟨_, by rw [HK0.out, HK1.out]; exact (by have h1 := HW.out.spoil (false || restBad s t n); simpa [restBad] using h1)⟩, below_setB HB.out HW.out.base _, HF.out.trans (Fr.set g 1 _ _)⟩
  · go_wp2_with fail
    exact bodyPost_end (results_none rfl _ _ _) rfl ⟨⟨_, rfl⟩, ⟨_, by rw [HK0.out, HK1.out]; exact (HW.out.spoil _)⟩, below_setB HB.out HW.out.base _, HF.out.trans (Fr.set g 1 _ _)⟩

set_option maxHeartbeats 8000000 in
set_option maxRecDepth 100000 in
theorem op_stat {w : World} {B g : Nat} {v : Value} {bs : List Int} {bad : Bool} (h : Wr w B g v bs bad) (hl : bs.length ≤ 1099511627776 - 100000)  (s t : ByteArray) (n : Int) :
    Calls Try.prog 36 #[.pointer (some ⟨g, 0, none⟩), .agg #[.int .i64 7, .string s, .string t, .int .i64 n]] w (WPost w B g (oB ⟨7, s, t, n⟩ bs) (oBad ⟨7, s, t, n⟩ bad)) := by
  have HK0 := Aside0.mk (show oB ⟨7, s, t, n⟩ bs = (bs ++ be 1 (IntKind.u64.wrap 7)) by rfl)
  have HK1 := Aside0.mk (show oBad ⟨7, s, t, n⟩ bad = (bad || restBad s t n) by rfl)
  have HZ := Aside0.mk (blk_new w (.cells #[.int .i64 7, .string s, .string t, .int .i64 n] 52))
  have HB := Aside0.mk (below_low (below_alloc (Below.refl w.heap.size w) (.cells #[.int .i64 7, .string s, .string t, .int .i64 n] 52)) h.low)
  have HF := Aside0.mk (Fr.below g (below_alloc (Below.refl w.heap.size w) (.cells #[.int .i64 7, .string s, .string t, .int .i64 n] 52)))
  have HW := Aside0.mk (h.below (below_alloc (Below.refl _ _) (.cells #[.int .i64 7, .string s, .string t, .int .i64 n] 52)))
  have HGZ := Aside0.mk (show w.heap.size ≠ g from Nat.ne_of_gt h.lt)
  have HL := Aside0.mk hl
  clear h hl
  go_enter Try.func36, Try.ntmps36
  go_upto_region 1 with fail
  generalize w.alloc (.cells #[.int .i64 7, .string s, .string t, .int .i64 n] 52) = w1 at HZ HB HF HW ⊢
  generalize w.heap.size = S at HZ HGZ ⊢
  have k0 := (blk_cell HZ.out 0).trans rfl
  go_wp2_with fail
  clear k0
  refine (num_calls HW.out (by have := HL.out; omega) (n := 1) (by decide) (x := IntKind.u64.wrap 7) (wrap_bd 7)).mono ?_
  rintro en w2 ⟨⟨u, rfl⟩, ⟨v2, hw⟩, hb, hf⟩
  have HW2 := Aside0.mk hw
  have HB2 := Aside0.mk (below_trans HB.out hb)
  have HF2 := Aside0.mk (HF.out.trans hf)
  have HZ2 := Aside0.mk (hf S _ _ HZ.out (by decide) HGZ.out)
  clear hw hb hf HW HB HF HZ
  have k0 := (blk_cell HZ2.out 0).trans rfl
  have k1 := (blk_cell HZ2.out 1).trans rfl
  have k2 := (blk_cell HZ2.out 2).trans rfl
  have k3 := (blk_cell HZ2.out 3).trans rfl
  go_upto_region 4 with fail
  clear k0 k1 k2 k3
  have HR := Aside0.mk (blk_new w2 (.cells #[.int .i64 0, .string s, .string t, .int .i64 n] 52))
  have HW := Aside0.mk (HW2.out.below (below_alloc (Below.refl _ _) (.cells #[.int .i64 0, .string s, .string t, .int .i64 n] 52)))
  have HB := Aside0.mk (below_trans HB2.out (below_low (below_alloc (Below.refl w2.heap.size w2) (.cells #[.int .i64 0, .string s, .string t, .int .i64 n] 52)) HW2.out.low))
  have HF := Aside0.mk (HF2.out.trans (Fr.below g (below_alloc (Below.refl w2.heap.size w2) (.cells #[.int .i64 0, .string s, .string t, .int .i64 n] 52))))
  have HZ := Aside0.mk (blk_below HZ2.out (below_alloc (Below.refl w2.heap.size w2) (.cells #[.int .i64 0, .string s, .string t, .int .i64 n] 52)))
  have HRG := Aside0.mk (show w2.heap.size ≠ g ∧ w2.heap.size ≠ S ∧ B ≤ w2.heap.size from ⟨Nat.ne_of_gt HW2.out.lt, Nat.ne_of_gt (blk_lt HZ2.out), HW2.out.low⟩)
  have HNW := Aside0.mk (show w.heap.size ≤ w2.heap.size from HB2.out.size)
  clear HW2 HB2 HF2 HZ2
  generalize w2.alloc (.cells #[.int .i64 0, .string s, .string t, .int .i64 n] 52) = w3 at HR HW HB HF HZ ⊢
  generalize w2.heap.size = R at HR HRG HNW ⊢
  have HL1 := Aside0.mk (show (bs ++ be 1 (IntKind.u64.wrap 7)).length ≤ 1099511627776 - 99999 by rw [List.length_append, be_length]; have := HL.out; omega)
  generalize bs ++ be 1 (IntKind.u64.wrap 7) = b at HL1 HW HK0
  have k0 := (blk_cell HZ.out 0).trans rfl
  go_upto_region 23 with fail
  clear k0
  have g1 := (blk_cell HW.out.ex 1).trans rfl
  have f1 := blk_frozen HW.out.ex 1
  have r0 := (blk_cell HR.out 0).trans rfl
  have r1 := (blk_cell HR.out 1).trans rfl
  have r2 := (blk_cell HR.out 2).trans rfl
  have r3 := (blk_cell HR.out 3).trans rfl
  have he := fun d W => Go.Proofs.Ytfpdapdnmkadeaa.O.eqA52 d W 0 0 s ⟨#[]⟩ t ⟨#[]⟩ n 0
  generalize hbd : (bad) = bd at g1 f1 HK1
  have HBD := Aside0.mk hbd
  clear hbd
  cases bd
  · go_wp2_with fail
    exact bodyPost_end (results_none rfl _ _ _) rfl ⟨⟨_, rfl⟩, ⟨_, by rw [HK0.out, HK1.out]; exact (by have h1 := HW.out.spoil (false || restBad s t n); simpa [restBad] using h1)⟩, below_setB HB.out HW.out.base _, HF.out.trans (Fr.set g 1 _ _)⟩
  · go_wp2_with fail
    exact bodyPost_end (results_none rfl _ _ _) rfl ⟨⟨_, rfl⟩, ⟨_, by rw [HK0.out, HK1.out]; exact (HW.out.spoil _)⟩, below_setB HB.out HW.out.base _, HF.out.trans (Fr.set g 1 _ _)⟩

set_option maxHeartbeats 8000000 in
set_option maxRecDepth 100000 in
theorem op_none {w : World} {B g : Nat} {v : Value} {bs : List Int} {bad : Bool} (h : Wr w B g v bs bad) (hl : bs.length ≤ 1099511627776 - 100000) (K : Int) (s t : ByteArray) (n : Int) (hK : K < 1 ∨ 7 < K) :
    Calls Try.prog 36 #[.pointer (some ⟨g, 0, none⟩), .agg #[.int .i64 K, .string s, .string t, .int .i64 n]] w (WPost w B g (oB ⟨K, s, t, n⟩ bs) (oBad ⟨K, s, t, n⟩ bad)) := by
  have HK0 := Aside0.mk (show oB ⟨K, s, t, n⟩ bs = (bs ++ be 1 (IntKind.u64.wrap K)) by (unfold oB; rw [if_neg (by show ¬ K = 1; omega), if_neg (by show ¬ (K = 2 ∨ K = 3); omega), if_neg (by show ¬ K = 4; omega)]))
  have HK1 := Aside0.mk (show oBad ⟨K, s, t, n⟩ bad = (true) by (unfold oBad; rw [if_neg (by show ¬ K = 1; omega), if_neg (by show ¬ (K = 2 ∨ K = 3); omega), if_neg (by show ¬ K = 4; omega), if_neg (by show ¬ (K = 5 ∨ K = 6 ∨ K = 7); omega)]))
  have HZ := Aside0.mk (blk_new w (.cells #[.int .i64 K, .string s, .string t, .int .i64 n] 52))
  have HB := Aside0.mk (below_low (below_alloc (Below.refl w.heap.size w) (.cells #[.int .i64 K, .string s, .string t, .int .i64 n] 52)) h.low)
  have HF := Aside0.mk (Fr.below g (below_alloc (Below.refl w.heap.size w) (.cells #[.int .i64 K, .string s, .string t, .int .i64 n] 52)))
  have HW := Aside0.mk (h.below (below_alloc (Below.refl _ _) (.cells #[.int .i64 K, .string s, .string t, .int .i64 n] 52)))
  have HGZ := Aside0.mk (show w.heap.size ≠ g from Nat.ne_of_gt h.lt)
  have HL := Aside0.mk hl
  clear h hl
  go_enter Try.func36, Try.ntmps36
  go_upto_region 1 with fail
  generalize w.alloc (.cells #[.int .i64 K, .string s, .string t, .int .i64 n] 52) = w1 at HZ HB HF HW ⊢
  generalize w.heap.size = S at HZ HGZ ⊢
  have k0 := (blk_cell HZ.out 0).trans rfl
  go_wp2_with fail
  clear k0
  refine (num_calls HW.out (by have := HL.out; omega) (n := 1) (by decide) (x := IntKind.u64.wrap K) (wrap_bd K)).mono ?_
  rintro en w2 ⟨⟨u, rfl⟩, ⟨v2, hw⟩, hb, hf⟩
  have HW2 := Aside0.mk hw
  have HB2 := Aside0.mk (below_trans HB.out hb)
  have HF2 := Aside0.mk (HF.out.trans hf)
  have HZ2 := Aside0.mk (hf S _ _ HZ.out (by decide) HGZ.out)
  clear hw hb hf HW HB HF HZ
  have k0 := (blk_cell HZ2.out 0).trans rfl
  have k1 := (blk_cell HZ2.out 1).trans rfl
  have k2 := (blk_cell HZ2.out 2).trans rfl
  have k3 := (blk_cell HZ2.out 3).trans rfl
  go_upto_region 4 with fail
  clear k0 k1 k2 k3
  have HR := Aside0.mk (blk_new w2 (.cells #[.int .i64 0, .string s, .string t, .int .i64 n] 52))
  have HW := Aside0.mk (HW2.out.below (below_alloc (Below.refl _ _) (.cells #[.int .i64 0, .string s, .string t, .int .i64 n] 52)))
  have HB := Aside0.mk (below_trans HB2.out (below_low (below_alloc (Below.refl w2.heap.size w2) (.cells #[.int .i64 0, .string s, .string t, .int .i64 n] 52)) HW2.out.low))
  have HF := Aside0.mk (HF2.out.trans (Fr.below g (below_alloc (Below.refl w2.heap.size w2) (.cells #[.int .i64 0, .string s, .string t, .int .i64 n] 52))))
  have HZ := Aside0.mk (blk_below HZ2.out (below_alloc (Below.refl w2.heap.size w2) (.cells #[.int .i64 0, .string s, .string t, .int .i64 n] 52)))
  have HRG := Aside0.mk (show w2.heap.size ≠ g ∧ w2.heap.size ≠ S ∧ B ≤ w2.heap.size from ⟨Nat.ne_of_gt HW2.out.lt, Nat.ne_of_gt (blk_lt HZ2.out), HW2.out.low⟩)
  have HNW := Aside0.mk (show w.heap.size ≤ w2.heap.size from HB2.out.size)
  clear HW2 HB2 HF2 HZ2
  generalize w2.alloc (.cells #[.int .i64 0, .string s, .string t, .int .i64 n] 52) = w3 at HR HW HB HF HZ ⊢
  generalize w2.heap.size = R at HR HRG HNW ⊢
  have HL1 := Aside0.mk (show (bs ++ be 1 (IntKind.u64.wrap K)).length ≤ 1099511627776 - 99999 by rw [List.length_append, be_length]; have := HL.out; omega)
  generalize bs ++ be 1 (IntKind.u64.wrap K) = b at HL1 HW HK0
  have k0 := (blk_cell HZ.out 0).trans rfl
  have q1 : (K == 1) = false := beq_eq_false_iff_ne.2 (by omega)
  have q2 : (K == 2) = false := beq_eq_false_iff_ne.2 (by omega)
  have q3 : (K == 3) = false := beq_eq_false_iff_ne.2 (by omega)
  have q4 : (K == 4) = false := beq_eq_false_iff_ne.2 (by omega)
  have q5 : (K == 5) = false := beq_eq_false_iff_ne.2 (by omega)
  have q6 : (K == 6) = false := beq_eq_false_iff_ne.2 (by omega)
  have q7 : (K == 7) = false := beq_eq_false_iff_ne.2 (by omega)
  have g1 := (blk_cell HW.out.ex 1).trans rfl
  have f1 := blk_frozen HW.out.ex 1
  go_upto_region 23 with fail
  clear k0 g1 f1
  have HW1 := Aside0.mk (HW.out.spoil true)
  have HR1 := Aside0.mk (show (w3.setCell ⟨g, 1, none⟩ (.bool true)).heap[R]? = _ from (Below.heap_setCell w3 ⟨g, 1, none⟩ _ R HRG.out.1).trans HR.out)
  have HB1 := Aside0.mk (below_setB (p := ⟨g, 1, none⟩) HB.out HW.out.base (.bool true))
  have HF1 := Aside0.mk (HF.out.trans (Fr.set g 1 w3 (.bool true)))
  clear HW HR HB HF HZ
  have HW := HW1
  have HB := HB1
  have HF := HF1
  have HR := HR1
  clear HW1 HB1 HF1 HR1
  generalize w3.setCell ⟨g, 1, none⟩ (.bool true) = wf at HW HR HB HF ⊢
  have g1 := (blk_cell HW.out.ex 1).trans rfl
  have f1 := blk_frozen HW.out.ex 1
  go_wp2_with fail
  exact bodyPost_end (results_none rfl _ _ _) rfl ⟨⟨_, rfl⟩, ⟨_, by rw [HK0.out, HK1.out]; exact HW.out.spoil true⟩, below_setB HB.out HW.out.base _, HF.out.trans (Fr.set g 1 _ _)⟩

set_option maxHeartbeats 8000000 in
set_option maxRecDepth 100000 in
theorem op_range_bad {w : World} {B g : Nat} {v : Value} {bs : List Int} {bad : Bool} (h : Wr w B g v bs bad) (hl : bs.length ≤ 1099511627776 - 100000)  (s t : ByteArray) (n : Int) (hq : tBad 255 t (tBad 255 s bad) = true) :
    Calls Try.prog 36 #[.pointer (some ⟨g, 0, none⟩), .agg #[.int .i64 4, .string s, .string t, .int .i64 n]] w (WPost w B g (oB ⟨4, s, t, n⟩ bs) (oBad ⟨4, s, t, n⟩ bad)) := by
  have HK0 := Aside0.mk (show oB ⟨4, s, t, n⟩ bs = tB 1 255 t (tB 1 255 s (bs ++ be 1 (IntKind.u64.wrap 4))) ++ be 4 (IntKind.u64.wrap n) by rfl)
  have HK1 := Aside0.mk (show oBad ⟨4, s, t, n⟩ bad = (tBad 255 t (tBad 255 s bad) || (decide (n < 0) || decide (2147483647 < n))) by rfl)
  have HZ := Aside0.mk (blk_new w (.cells #[.int .i64 4, .string s, .string t, .int .i64 n] 52))
  have HB := Aside0.mk (below_low (below_alloc (Below.refl w.heap.size w) (.cells #[.int .i64 4, .string s, .string t, .int .i64 n] 52)) h.low)
  have HF := Aside0.mk (Fr.below g (below_alloc (Below.refl w.heap.size w) (.cells #[.int .i64 4, .string s, .string t, .int .i64 n] 52)))
  have HW := Aside0.mk (h.below (below_alloc (Below.refl _ _) (.cells #[.int .i64 4, .string s, .string t, .int .i64 n] 52)))
  have HGZ := Aside0.mk (show w.heap.size ≠ g from Nat.ne_of_gt h.lt)
  have HL := Aside0.mk hl
  clear h hl
  go_enter Try.func36, Try.ntmps36
  go_upto_region 1 with fail
  generalize w.alloc (.cells #[.int .i64 4, .string s, .string t, .int .i64 n] 52) = w1 at HZ HB HF HW ⊢
  generalize w.heap.size = S at HZ HGZ ⊢
  have k0 := (blk_cell HZ.out 0).trans rfl
  go_wp2_with fail
  clear k0
  refine (num_calls HW.out (by have := HL.out; omega) (n := 1) (by decide) (x := IntKind.u64.wrap 4) (wrap_bd 4)).mono ?_
  rintro en w2 ⟨⟨u, rfl⟩, ⟨v2, hw⟩, hb, hf⟩
  have HW2 := Aside0.mk hw
  have HB2 := Aside0.mk (below_trans HB.out hb)
  have HF2 := Aside0.mk (HF.out.trans hf)
  have HZ2 := Aside0.mk (hf S _ _ HZ.out (by decide) HGZ.out)
  clear hw hb hf HW HB HF HZ
  have k0 := (blk_cell HZ2.out 0).trans rfl
  have k1 := (blk_cell HZ2.out 1).trans rfl
  have k2 := (blk_cell HZ2.out 2).trans rfl
  have k3 := (blk_cell HZ2.out 3).trans rfl
  go_upto_region 4 with fail
  clear k0 k1 k2 k3
  have HR := Aside0.mk (blk_new w2 (.cells #[.int .i64 0, .string s, .string t, .int .i64 n] 52))
  have HW := Aside0.mk (HW2.out.below (below_alloc (Below.refl _ _) (.cells #[.int .i64 0, .string s, .string t, .int .i64 n] 52)))
  have HB := Aside0.mk (below_trans HB2.out (below_low (below_alloc (Below.refl w2.heap.size w2) (.cells #[.int .i64 0, .string s, .string t, .int .i64 n] 52)) HW2.out.low))
  have HF := Aside0.mk (HF2.out.trans (Fr.below g (below_alloc (Below.refl w2.heap.size w2) (.cells #[.int .i64 0, .string s, .string t, .int .i64 n] 52))))
  have HZ := Aside0.mk (blk_below HZ2.out (below_alloc (Below.refl w2.heap.size w2) (.cells #[.int .i64 0, .string s, .string t, .int .i64 n] 52)))
  have HRG := Aside0.mk (show w2.heap.size ≠ g ∧ w2.heap.size ≠ S ∧ B ≤ w2.heap.size from ⟨Nat.ne_of_gt HW2.out.lt, Nat.ne_of_gt (blk_lt HZ2.out), HW2.out.low⟩)
  have HNW := Aside0.mk (show w.heap.size ≤ w2.heap.size from HB2.out.size)
  clear HW2 HB2 HF2 HZ2
  generalize w2.alloc (.cells #[.int .i64 0, .string s, .string t, .int .i64 n] 52) = w3 at HR HW HB HF HZ ⊢
  generalize w2.heap.size = R at HR HRG HNW ⊢
  have HL1 := Aside0.mk (show (bs ++ be 1 (IntKind.u64.wrap 4)).length ≤ 1099511627776 - 99999 by rw [List.length_append, be_length]; have := HL.out; omega)
  generalize bs ++ be 1 (IntKind.u64.wrap 4) = b at HL1 HW HK0
  have k0 := (blk_cell HZ.out 0).trans rfl
  have k1 := (blk_cell HZ.out 1).trans rfl
  go_wp2_with fail
  clear k1
  refine (short_calls HW.out (by have := HL1.out; omega) s).mono ?_
  rintro en wn ⟨⟨un, rfl⟩, ⟨vn, hw⟩, hb, hf⟩
  have HW1 := Aside0.mk hw
  have HB1 := Aside0.mk (below_trans HB.out hb)
  have HF1 := Aside0.mk (HF.out.trans hf)
  have HZ1 := Aside0.mk (hf S _ _ HZ.out (by decide) HGZ.out)
  have HR1 := Aside0.mk (hf R _ _ HR.out (by decide) HRG.out.1)
  have HL2 := Aside0.mk (show (tB 1 255 s b).length ≤ 1099511627776 - 99000 by
    have h1 := tB_len 1 (most := 255) s (b)
    rw [if_neg (by decide)] at h1
    have h2 := HL1.out
    omega)
  clear hw hb hf HW HB HF HR HZ
  have HW := HW1
  have HB := HB1
  have HF := HF1
  have HZ := HZ1
  have HR := HR1
  clear HW1 HB1 HF1 HZ1 HR1
  have k2 := (blk_cell HZ.out 2).trans rfl
  go_wp2_with fail
  clear k2
  refine (short_calls HW.out (by have := HL2.out; omega) t).mono ?_
  rintro en wn ⟨⟨un, rfl⟩, ⟨vn, hw⟩, hb, hf⟩
  have HW1 := Aside0.mk hw
  have HB1 := Aside0.mk (below_trans HB.out hb)
  have HF1 := Aside0.mk (HF.out.trans hf)
  have HZ1 := Aside0.mk (hf S _ _ HZ.out (by decide) HGZ.out)
  have HR1 := Aside0.mk (hf R _ _ HR.out (by decide) HRG.out.1)
  have HL3 := Aside0.mk (show (tB 1 255 t (tB 1 255 s b)).length ≤ 1099511627776 - 33000 by
    have h1 := tB_len 1 (most := 255) t (tB 1 255 s b)
    rw [if_neg (by decide)] at h1
    have h2 := HL2.out
    omega)
  clear hw hb hf HW HB HF HR HZ
  have HW := HW1
  have HB := HB1
  have HF := HF1
  have HZ := HZ1
  have HR := HR1
  clear HW1 HB1 HF1 HZ1 HR1
  have k3 := (blk_cell HZ.out 3).trans rfl
  have hq0 := hq
  have HQ := Aside0.mk (show (tBad 255 t (tBad 255 s bad) || (decide (n < 0) || decide (2147483647 < n))) = true by rw [hq]; rfl)
  rw [hq0] at HW
  have g1 := (blk_cell HW.out.ex 1).trans rfl
  have f1 := blk_frozen HW.out.ex 1
  go_upto_region 18 with fail
  clear g1 f1
  have HW1 := Aside0.mk (HW.out.spoil true)
  have HR1 := Aside0.mk (show (wn.setCell ⟨g, 1, none⟩ (.bool true)).heap[R]? = _ from (Below.heap_setCell wn ⟨g, 1, none⟩ _ R HRG.out.1).trans HR.out)
  have HZ1 := Aside0.mk (show (wn.setCell ⟨g, 1, none⟩ (.bool true)).heap[S]? = _ from (Below.heap_setCell wn ⟨g, 1, none⟩ _ S HGZ.out).trans HZ.out)
  have HB1 := Aside0.mk (below_setB (p := ⟨g, 1, none⟩) HB.out HW.out.base (.bool true))
  have HF1 := Aside0.mk (HF.out.trans (Fr.set g 1 wn (.bool true)))
  clear HW HR HB HF HZ k3
  generalize wn.setCell ⟨g, 1, none⟩ (.bool true) = wq at HW1 HR1 HB1 HF1 HZ1 ⊢
  have HW := HW1
  have HB := HB1
  have HF := HF1
  have HR := HR1
  have k3 := (blk_cell HZ1.out 3).trans rfl
  clear HW1 HB1 HF1 HR1
  go_wp2_with fail
  clear k3
  refine (num_calls HW.out (by have := HL3.out; omega) (n := 4) (by decide) (x := IntKind.u64.wrap n) (wrap_bd n)).mono ?_
  rintro en wm ⟨⟨um, rfl⟩, ⟨vm, hw⟩, hb, hf⟩
  have HW1 := Aside0.mk hw
  have HB1 := Aside0.mk (below_trans HB.out hb)
  have HF1 := Aside0.mk (HF.out.trans hf)
  have HR1 := Aside0.mk (hf R _ _ HR.out (by decide) HRG.out.1)
  clear hw hb hf HW HB HF HR HZ1
  have HW := HW1
  have HB := HB1
  have HF := HF1
  have HR := HR1
  clear HW1 HB1 HF1 HR1
  have r0 := (blk_cell HR.out 0).trans rfl
  have f0 := blk_frozen HR.out 0
  have r1 := (blk_cell HR.out 1).trans rfl
  have f1 := blk_frozen HR.out 1
  have r2 := (blk_cell HR.out 2).trans rfl
  have f2 := blk_frozen HR.out 2
  have r3 := (blk_cell HR.out 3).trans rfl
  have f3 := blk_frozen HR.out 3
  go_upto_region 23 with fail
  clear r0 f0
  clear r1 f1
  clear r2 f2
  clear r3 f3
  have HW1 := Aside0.mk (HW.out.setR HR.out (by decide) HRG.out.1 0 (.int .i64 0))
  have HR1 := Aside0.mk (blk_put (cs' := #[.int .i64 0, .string s, .string t, .int .i64 n]) HR.out 0 (.int .i64 0) rfl)
  have HB1 := Aside0.mk (below_setB (p := ⟨R, 0, none⟩) HB.out HRG.out.2.2 (.int .i64 0))
  have HF1 := Aside0.mk (HF.out.setR HNW.out 0 (.int .i64 0))
  clear HW HR HB HF
  have HW := HW1
  have HB := HB1
  have HF := HF1
  have HR := HR1
  clear HW1 HB1 HF1 HR1
  have HW1 := Aside0.mk (HW.out.setR HR.out (by decide) HRG.out.1 1 (.string ⟨#[]⟩))
  have HR1 := Aside0.mk (blk_put (cs' := #[.int .i64 0, .string ⟨#[]⟩, .string t, .int .i64 n]) HR.out 1 (.string ⟨#[]⟩) rfl)
  have HB1 := Aside0.mk (below_setB (p := ⟨R, 1, none⟩) HB.out HRG.out.2.2 (.string ⟨#[]⟩))
  have HF1 := Aside0.mk (HF.out.setR HNW.out 1 (.string ⟨#[]⟩))
  clear HW HR HB HF
  have HW := HW1
  have HB := HB1
  have HF := HF1
  have HR := HR1
  clear HW1 HB1 HF1 HR1
  have HW1 := Aside0.mk (HW.out.setR HR.out (by decide) HRG.out.1 2 (.string ⟨#[]⟩))
  have HR1 := Aside0.mk (blk_put (cs' := #[.int .i64 0, .string ⟨#[]⟩, .string ⟨#[]⟩, .int .i64 n]) HR.out 2 (.string ⟨#[]⟩) rfl)
  have HB1 := Aside0.mk (below_setB (p := ⟨R, 2, none⟩) HB.out HRG.out.2.2 (.string ⟨#[]⟩))
  have HF1 := Aside0.mk (HF.out.setR HNW.out 2 (.string ⟨#[]⟩))
  clear HW HR HB HF
  have HW := HW1
  have HB := HB1
  have HF := HF1
  have HR := HR1
  clear HW1 HB1 HF1 HR1
  have HW1 := Aside0.mk (HW.out.setR HR.out (by decide) HRG.out.1 3 (.int .i64 0))
  have HR1 := Aside0.mk (blk_put (cs' := #[.int .i64 0, .string ⟨#[]⟩, .string ⟨#[]⟩, .int .i64 0]) HR.out 3 (.int .i64 0) rfl)
  have HB1 := Aside0.mk (below_setB (p := ⟨R, 3, none⟩) HB.out HRG.out.2.2 (.int .i64 0))
  have HF1 := Aside0.mk (HF.out.setR HNW.out 3 (.int .i64 0))
  clear HW HR HB HF
  have HW := HW1
  have HB := HB1
  have HF := HF1
  have HR := HR1
  clear HW1 HB1 HF1 HR1
  generalize (((wm.setCell ⟨R, 0, none⟩ (.int .i64 0)).setCell ⟨R, 1, none⟩ (.string ⟨#[]⟩)).setCell ⟨R, 2, none⟩ (.string ⟨#[]⟩)).setCell ⟨R, 3, none⟩ (.int .i64 0) = wf at HW HR HB HF ⊢
  have g1 := (blk_cell HW.out.ex 1).trans rfl
  have f1 := blk_frozen HW.out.ex 1
  have r0 := (blk_cell HR.out 0).trans rfl
  have r1 := (blk_cell HR.out 1).trans rfl
  have r2 := (blk_cell HR.out 2).trans rfl
  have r3 := (blk_cell HR.out 3).trans rfl
  have he := fun d W => Go.Proofs.Ytfpdapdnmkadeaa.O.eqA52 d W 0 0 ⟨#[]⟩ ⟨#[]⟩ ⟨#[]⟩ ⟨#[]⟩ 0 0
  go_wp2_with fail
  exact bodyPost_end (results_none rfl _ _ _) rfl ⟨⟨_, rfl⟩, ⟨_, by rw [HK0.out, HK1.out, HQ.out]; exact HW.out.spoil true⟩, below_setB HB.out HW.out.base _, HF.out.trans (Fr.set g 1 _ _)⟩

set_option maxHeartbeats 8000000 in
set_option maxRecDepth 100000 in
theorem op_range_neg {w : World} {B g : Nat} {v : Value} {bs : List Int} {bad : Bool} (h : Wr w B g v bs bad) (hl : bs.length ≤ 1099511627776 - 100000)  (s t : ByteArray) (n : Int) (hq : tBad 255 t (tBad 255 s bad) = false) (hn : n < 0) :
    Calls Try.prog 36 #[.pointer (some ⟨g, 0, none⟩), .agg #[.int .i64 4, .string s, .string t, .int .i64 n]] w (WPost w B g (oB ⟨4, s, t, n⟩ bs) (oBad ⟨4, s, t, n⟩ bad)) := by
  have HK0 := Aside0.mk (show oB ⟨4, s, t, n⟩ bs = tB 1 255 t (tB 1 255 s (bs ++ be 1 (IntKind.u64.wrap 4))) ++ be 4 (IntKind.u64.wrap n) by rfl)
  have HK1 := Aside0.mk (show oBad ⟨4, s, t, n⟩ bad = (tBad 255 t (tBad 255 s bad) || (decide (n < 0) || decide (2147483647 < n))) by rfl)
  have HZ := Aside0.mk (blk_new w (.cells #[.int .i64 4, .string s, .string t, .int .i64 n] 52))
  have HB := Aside0.mk (below_low (below_alloc (Below.refl w.heap.size w) (.cells #[.int .i64 4, .string s, .string t, .int .i64 n] 52)) h.low)
  have HF := Aside0.mk (Fr.below g (below_alloc (Below.refl w.heap.size w) (.cells #[.int .i64 4, .string s, .string t, .int .i64 n] 52)))
  have HW := Aside0.mk (h.below (below_alloc (Below.refl _ _) (.cells #[.int .i64 4, .string s, .string t, .int .i64 n] 52)))
  have HGZ := Aside0.mk (show w.heap.size ≠ g from Nat.ne_of_gt h.lt)
  have HL := Aside0.mk hl
  clear h hl
  go_enter Try.func36, Try.ntmps36
  go_upto_region 1 with fail
  generalize w.alloc (.cells #[.int .i64 4, .string s, .string t, .int .i64 n] 52) = w1 at HZ HB HF HW ⊢
  generalize w.heap.size = S at HZ HGZ ⊢
  have k0 := (blk_cell HZ.out 0).trans rfl
  go_wp2_with fail
  clear k0
  refine (num_calls HW.out (by have := HL.out; omega) (n := 1) (by decide) (x := IntKind.u64.wrap 4) (wrap_bd 4)).mono ?_
  rintro en w2 ⟨⟨u, rfl⟩, ⟨v2, hw⟩, hb, hf⟩
  have HW2 := Aside0.mk hw
  have HB2 := Aside0.mk (below_trans HB.out hb)
  have HF2 := Aside0.mk (HF.out.trans hf)
  have HZ2 := Aside0.mk (hf S _ _ HZ.out (by decide) HGZ.out)
  clear hw hb hf HW HB HF HZ
  have k0 := (blk_cell HZ2.out 0).trans rfl
  have k1 := (blk_cell HZ2.out 1).trans rfl
  have k2 := (blk_cell HZ2.out 2).trans rfl
  have k3 := (blk_cell HZ2.out 3).trans rfl
  go_upto_region 4 with fail
  clear k0 k1 k2 k3
  have HR := Aside0.mk (blk_new w2 (.cells #[.int .i64 0, .string s, .string t, .int .i64 n] 52))
  have HW := Aside0.mk (HW2.out.below (below_alloc (Below.refl _ _) (.cells #[.int .i64 0, .string s, .string t, .int .i64 n] 52)))
  have HB := Aside0.mk (below_trans HB2.out (below_low (below_alloc (Below.refl w2.heap.size w2) (.cells #[.int .i64 0, .string s, .string t, .int .i64 n] 52)) HW2.out.low))
  have HF := Aside0.mk (HF2.out.trans (Fr.below g (below_alloc (Below.refl w2.heap.size w2) (.cells #[.int .i64 0, .string s, .string t, .int .i64 n] 52))))
  have HZ := Aside0.mk (blk_below HZ2.out (below_alloc (Below.refl w2.heap.size w2) (.cells #[.int .i64 0, .string s, .string t, .int .i64 n] 52)))
  have HRG := Aside0.mk (show w2.heap.size ≠ g ∧ w2.heap.size ≠ S ∧ B ≤ w2.heap.size from ⟨Nat.ne_of_gt HW2.out.lt, Nat.ne_of_gt (blk_lt HZ2.out), HW2.out.low⟩)
  have HNW := Aside0.mk (show w.heap.size ≤ w2.heap.size from HB2.out.size)
  clear HW2 HB2 HF2 HZ2
  generalize w2.alloc (.cells #[.int .i64 0, .string s, .string t, .int .i64 n] 52) = w3 at HR HW HB HF HZ ⊢
  generalize w2.heap.size = R at HR HRG HNW ⊢
  have HL1 := Aside0.mk (show (bs ++ be 1 (IntKind.u64.wrap 4)).length ≤ 1099511627776 - 99999 by rw [List.length_append, be_length]; have := HL.out; omega)
  generalize bs ++ be 1 (IntKind.u64.wrap 4) = b at HL1 HW HK0
  have k0 := (blk_cell HZ.out 0).trans rfl
  have k1 := (blk_cell HZ.out 1).trans rfl
  go_wp2_with fail
  clear k1
  refine (short_calls HW.out (by have := HL1.out; omega) s).mono ?_
  rintro en wn ⟨⟨un, rfl⟩, ⟨vn, hw⟩, hb, hf⟩
  have HW1 := Aside0.mk hw
  have HB1 := Aside0.mk (below_trans HB.out hb)
  have HF1 := Aside0.mk (HF.out.trans hf)
  have HZ1 := Aside0.mk (hf S _ _ HZ.out (by decide) HGZ.out)
  have HR1 := Aside0.mk (hf R _ _ HR.out (by decide) HRG.out.1)
  have HL2 := Aside0.mk (show (tB 1 255 s b).length ≤ 1099511627776 - 99000 by
    have h1 := tB_len 1 (most := 255) s (b)
    rw [if_neg (by decide)] at h1
    have h2 := HL1.out
    omega)
  clear hw hb hf HW HB HF HR HZ
  have HW := HW1
  have HB := HB1
  have HF := HF1
  have HZ := HZ1
  have HR := HR1
  clear HW1 HB1 HF1 HZ1 HR1
  have k2 := (blk_cell HZ.out 2).trans rfl
  go_wp2_with fail
  clear k2
  refine (short_calls HW.out (by have := HL2.out; omega) t).mono ?_
  rintro en wn ⟨⟨un, rfl⟩, ⟨vn, hw⟩, hb, hf⟩
  have HW1 := Aside0.mk hw
  have HB1 := Aside0.mk (below_trans HB.out hb)
  have HF1 := Aside0.mk (HF.out.trans hf)
  have HZ1 := Aside0.mk (hf S _ _ HZ.out (by decide) HGZ.out)
  have HR1 := Aside0.mk (hf R _ _ HR.out (by decide) HRG.out.1)
  have HL3 := Aside0.mk (show (tB 1 255 t (tB 1 255 s b)).length ≤ 1099511627776 - 33000 by
    have h1 := tB_len 1 (most := 255) t (tB 1 255 s b)
    rw [if_neg (by decide)] at h1
    have h2 := HL2.out
    omega)
  clear hw hb hf HW HB HF HR HZ
  have HW := HW1
  have HB := HB1
  have HF := HF1
  have HZ := HZ1
  have HR := HR1
  clear HW1 HB1 HF1 HZ1 HR1
  have k3 := (blk_cell HZ.out 3).trans rfl
  have hq0 := hq
  have HQ := Aside0.mk (show (tBad 255 t (tBad 255 s bad) || (decide (n < 0) || decide (2147483647 < n))) = true by rw [hq]; rw [show decide (n < 0) = true from decide_eq_true (by omega)]; rfl)
  have n1 : decide (n < 0) = true := decide_eq_true (by omega)
  clear hn
  rw [hq0] at HW
  have g1 := (blk_cell HW.out.ex 1).trans rfl
  have f1 := blk_frozen HW.out.ex 1
  go_upto_region 18 with fail
  clear g1 f1
  have HW1 := Aside0.mk (HW.out.spoil true)
  have HR1 := Aside0.mk (show (wn.setCell ⟨g, 1, none⟩ (.bool true)).heap[R]? = _ from (Below.heap_setCell wn ⟨g, 1, none⟩ _ R HRG.out.1).trans HR.out)
  have HZ1 := Aside0.mk (show (wn.setCell ⟨g, 1, none⟩ (.bool true)).heap[S]? = _ from (Below.heap_setCell wn ⟨g, 1, none⟩ _ S HGZ.out).trans HZ.out)
  have HB1 := Aside0.mk (below_setB (p := ⟨g, 1, none⟩) HB.out HW.out.base (.bool true))
  have HF1 := Aside0.mk (HF.out.trans (Fr.set g 1 wn (.bool true)))
  clear HW HR HB HF HZ k3
  generalize wn.setCell ⟨g, 1, none⟩ (.bool true) = wq at HW1 HR1 HB1 HF1 HZ1 ⊢
  have HW := HW1
  have HB := HB1
  have HF := HF1
  have HR := HR1
  have k3 := (blk_cell HZ1.out 3).trans rfl
  clear HW1 HB1 HF1 HR1
  go_wp2_with fail
  clear k3
  refine (num_calls HW.out (by have := HL3.out; omega) (n := 4) (by decide) (x := IntKind.u64.wrap n) (wrap_bd n)).mono ?_
  rintro en wm ⟨⟨um, rfl⟩, ⟨vm, hw⟩, hb, hf⟩
  have HW1 := Aside0.mk hw
  have HB1 := Aside0.mk (below_trans HB.out hb)
  have HF1 := Aside0.mk (HF.out.trans hf)
  have HR1 := Aside0.mk (hf R _ _ HR.out (by decide) HRG.out.1)
  clear hw hb hf HW HB HF HR HZ1
  have HW := HW1
  have HB := HB1
  have HF := HF1
  have HR := HR1
  clear HW1 HB1 HF1 HR1
  have r0 := (blk_cell HR.out 0).trans rfl
  have f0 := blk_frozen HR.out 0
  have r1 := (blk_cell HR.out 1).trans rfl
  have f1 := blk_frozen HR.out 1
  have r2 := (blk_cell HR.out 2).trans rfl
  have f2 := blk_frozen HR.out 2
  have r3 := (blk_cell HR.out 3).trans rfl
  have f3 := blk_frozen HR.out 3
  go_upto_region 23 with fail
  clear r0 f0
  clear r1 f1
  clear r2 f2
  clear r3 f3
  have HW1 := Aside0.mk (HW.out.setR HR.out (by decide) HRG.out.1 0 (.int .i64 0))
  have HR1 := Aside0.mk (blk_put (cs' := #[.int .i64 0, .string s, .string t, .int .i64 n]) HR.out 0 (.int .i64 0) rfl)
  have HB1 := Aside0.mk (below_setB (p := ⟨R, 0, none⟩) HB.out HRG.out.2.2 (.int .i64 0))
  have HF1 := Aside0.mk (HF.out.setR HNW.out 0 (.int .i64 0))
  clear HW HR HB HF
  have HW := HW1
  have HB := HB1
  have HF := HF1
  have HR := HR1
  clear HW1 HB1 HF1 HR1
  have HW1 := Aside0.mk (HW.out.setR HR.out (by decide) HRG.out.1 1 (.string ⟨#[]⟩))
  have HR1 := Aside0.mk (blk_put (cs' := #[.int .i64 0, .string ⟨#[]⟩, .string t, .int .i64 n]) HR.out 1 (.string ⟨#[]⟩) rfl)
  have HB1 := Aside0.mk (below_setB (p := ⟨R, 1, none⟩) HB.out HRG.out.2.2 (.string ⟨#[]⟩))
  have HF1 := Aside0.mk (HF.out.setR HNW.out 1 (.string ⟨#[]⟩))
  clear HW HR HB HF
  have HW := HW1
  have HB := HB1
  have HF := HF1
  have HR := HR1
  clear HW1 HB1 HF1 HR1
  have HW1 := Aside0.mk (HW.out.setR HR.out (by decide) HRG.out.1 2 (.string ⟨#[]⟩))
  have HR1 := Aside0.mk (blk_put (cs' := #[.int .i64 0, .string ⟨#[]⟩, .string ⟨#[]⟩, .int .i64 n]) HR.out 2 (.string ⟨#[]⟩) rfl)
  have HB1 := Aside0.mk (below_setB (p := ⟨R, 2, none⟩) HB.out HRG.out.2.2 (.string ⟨#[]⟩))
  have HF1 := Aside0.mk (HF.out.setR HNW.out 2 (.string ⟨#[]⟩))
  clear HW HR HB HF
  have HW := HW1
  have HB := HB1
  have HF := HF1
  have HR := HR1
  clear HW1 HB1 HF1 HR1
  have HW1 := Aside0.mk (HW.out.setR HR.out (by decide) HRG.out.1 3 (.int .i64 0))
  have HR1 := Aside0.mk (blk_put (cs' := #[.int .i64 0, .string ⟨#[]⟩, .string ⟨#[]⟩, .int .i64 0]) HR.out 3 (.int .i64 0) rfl)
  have HB1 := Aside0.mk (below_setB (p := ⟨R, 3, none⟩) HB.out HRG.out.2.2 (.int .i64 0))
  have HF1 := Aside0.mk (HF.out.setR HNW.out 3 (.int .i64 0))
  clear HW HR HB HF
  have HW := HW1
  have HB := HB1
  have HF := HF1
  have HR := HR1
  clear HW1 HB1 HF1 HR1
  generalize (((wm.setCell ⟨R, 0, none⟩ (.int .i64 0)).setCell ⟨R, 1, none⟩ (.string ⟨#[]⟩)).setCell ⟨R, 2, none⟩ (.string ⟨#[]⟩)).setCell ⟨R, 3, none⟩ (.int .i64 0) = wf at HW HR HB HF ⊢
  have g1 := (blk_cell HW.out.ex 1).trans rfl
  have f1 := blk_frozen HW.out.ex 1
  have r0 := (blk_cell HR.out 0).trans rfl
  have r1 := (blk_cell HR.out 1).trans rfl
  have r2 := (blk_cell HR.out 2).trans rfl
  have r3 := (blk_cell HR.out 3).trans rfl
  have he := fun d W => Go.Proofs.Ytfpdapdnmkadeaa.O.eqA52 d W 0 0 ⟨#[]⟩ ⟨#[]⟩ ⟨#[]⟩ ⟨#[]⟩ 0 0
  go_wp2_with fail
  exact bodyPost_end (results_none rfl _ _ _) rfl ⟨⟨_, rfl⟩, ⟨_, by rw [HK0.out, HK1.out, HQ.out]; exact HW.out.spoil true⟩, below_setB HB.out HW.out.base _, HF.out.trans (Fr.set g 1 _ _)⟩

set_option maxHeartbeats 8000000 in
set_option maxRecDepth 100000 in
theorem op_range_big {w : World} {B g : Nat} {v : Value} {bs : List Int} {bad : Bool} (h : Wr w B g v bs bad) (hl : bs.length ≤ 1099511627776 - 100000)  (s t : ByteArray) (n : Int) (hq : tBad 255 t (tBad 255 s bad) = false) (hn : ¬ n < 0) (hm : 2147483647 < n) :
    Calls Try.prog 36 #[.pointer (some ⟨g, 0, none⟩), .agg #[.int .i64 4, .string s, .string t, .int .i64 n]] w (WPost w B g (oB ⟨4, s, t, n⟩ bs) (oBad ⟨4, s, t, n⟩ bad)) := by
  have HK0 := Aside0.mk (show oB ⟨4, s, t, n⟩ bs = tB 1 255 t (tB 1 255 s (bs ++ be 1 (IntKind.u64.wrap 4))) ++ be 4 (IntKind.u64.wrap n) by rfl)
  have HK1 := Aside0.mk (show oBad ⟨4, s, t, n⟩ bad = (tBad 255 t (tBad 255 s bad) || (decide (n < 0) || decide (2147483647 < n))) by rfl)
  have HZ := Aside0.mk (blk_new w (.cells #[.int .i64 4, .string s, .string t, .int .i64 n] 52))
  have HB := Aside0.mk (below_low (below_alloc (Below.refl w.heap.size w) (.cells #[.int .i64 4, .string s, .string t, .int .i64 n] 52)) h.low)
  have HF := Aside0.mk (Fr.below g (below_alloc (Below.refl w.heap.size w) (.cells #[.int .i64 4, .string s, .string t, .int .i64 n] 52)))
  have HW := Aside0.mk (h.below (below_alloc (Below.refl _ _) (.cells #[.int .i64 4, .string s, .string t, .int .i64 n] 52)))
  have HGZ := Aside0.mk (show w.heap.size ≠ g from Nat.ne_of_gt h.lt)
  have HL := Aside0.mk hl
  clear h hl
  go_enter Try.func36, Try.ntmps36
  go_upto_region 1 with fail
  generalize w.alloc (.cells #[.int .i64 4, .string s, .string t, .int .i64 n] 52) = w1 at HZ HB HF HW ⊢
  generalize w.heap.size = S at HZ HGZ ⊢
  have k0 := (blk_cell HZ.out 0).trans rfl
  go_wp2_with fail
  clear k0
  refine (num_calls HW.out (by have := HL.out; omega) (n := 1) (by decide) (x := IntKind.u64.wrap 4) (wrap_bd 4)).mono ?_
  rintro en w2 ⟨⟨u, rfl⟩, ⟨v2, hw⟩, hb, hf⟩
  have HW2 := Aside0.mk hw
  have HB2 := Aside0.mk (below_trans HB.out hb)
  have HF2 := Aside0.mk (HF.out.trans hf)
  have HZ2 := Aside0.mk (hf S _ _ HZ.out (by decide) HGZ.out)
  clear hw hb hf HW HB HF HZ
  have k0 := (blk_cell HZ2.out 0).trans rfl
  have k1 := (blk_cell HZ2.out 1).trans rfl
  have k2 := (blk_cell HZ2.out 2).trans rfl
  have k3 := (blk_cell HZ2.out 3).trans rfl
  go_upto_region 4 with fail
  clear k0 k1 k2 k3
  have HR := Aside0.mk (blk_new w2 (.cells #[.int .i64 0, .string s, .string t, .int .i64 n] 52))
  have HW := Aside0.mk (HW2.out.below (below_alloc (Below.refl _ _) (.cells #[.int .i64 0, .string s, .string t, .int .i64 n] 52)))
  have HB := Aside0.mk (below_trans HB2.out (below_low (below_alloc (Below.refl w2.heap.size w2) (.cells #[.int .i64 0, .string s, .string t, .int .i64 n] 52)) HW2.out.low))
  have HF := Aside0.mk (HF2.out.trans (Fr.below g (below_alloc (Below.refl w2.heap.size w2) (.cells #[.int .i64 0, .string s, .string t, .int .i64 n] 52))))
  have HZ := Aside0.mk (blk_below HZ2.out (below_alloc (Below.refl w2.heap.size w2) (.cells #[.int .i64 0, .string s, .string t, .int .i64 n] 52)))
  have HRG := Aside0.mk (show w2.heap.size ≠ g ∧ w2.heap.size ≠ S ∧ B ≤ w2.heap.size from ⟨Nat.ne_of_gt HW2.out.lt, Nat.ne_of_gt (blk_lt HZ2.out), HW2.out.low⟩)
  have HNW := Aside0.mk (show w.heap.size ≤ w2.heap.size from HB2.out.size)
  clear HW2 HB2 HF2 HZ2
  generalize w2.alloc (.cells #[.int .i64 0, .string s, .string t, .int .i64 n] 52) = w3 at HR HW HB HF HZ ⊢
  generalize w2.heap.size = R at HR HRG HNW ⊢
  have HL1 := Aside0.mk (show (bs ++ be 1 (IntKind.u64.wrap 4)).length ≤ 1099511627776 - 99999 by rw [List.length_append, be_length]; have := HL.out; omega)
  generalize bs ++ be 1 (IntKind.u64.wrap 4) = b at HL1 HW HK0
  have k0 := (blk_cell HZ.out 0).trans rfl
  have k1 := (blk_cell HZ.out 1).trans rfl
  go_wp2_with fail
  clear k1
  refine (short_calls HW.out (by have := HL1.out; omega) s).mono ?_
  rintro en wn ⟨⟨un, rfl⟩, ⟨vn, hw⟩, hb, hf⟩
  have HW1 := Aside0.mk hw
  have HB1 := Aside0.mk (below_trans HB.out hb)
  have HF1 := Aside0.mk (HF.out.trans hf)
  have HZ1 := Aside0.mk (hf S _ _ HZ.out (by decide) HGZ.out)
  have HR1 := Aside0.mk (hf R _ _ HR.out (by decide) HRG.out.1)
  have HL2 := Aside0.mk (show (tB 1 255 s b).length ≤ 1099511627776 - 99000 by
    have h1 := tB_len 1 (most := 255) s (b)
    rw [if_neg (by decide)] at h1
    have h2 := HL1.out
    omega)
  clear hw hb hf HW HB HF HR HZ
  have HW := HW1
  have HB := HB1
  have HF := HF1
  have HZ := HZ1
  have HR := HR1
  clear HW1 HB1 HF1 HZ1 HR1
  have k2 := (blk_cell HZ.out 2).trans rfl
  go_wp2_with fail
  clear k2
  refine (short_calls HW.out (by have := HL2.out; omega) t).mono ?_
  rintro en wn ⟨⟨un, rfl⟩, ⟨vn, hw⟩, hb, hf⟩
  have HW1 := Aside0.mk hw
  have HB1 := Aside0.mk (below_trans HB.out hb)
  have HF1 := Aside0.mk (HF.out.trans hf)
  have HZ1 := Aside0.mk (hf S _ _ HZ.out (by decide) HGZ.out)
  have HR1 := Aside0.mk (hf R _ _ HR.out (by decide) HRG.out.1)
  have HL3 := Aside0.mk (show (tB 1 255 t (tB 1 255 s b)).length ≤ 1099511627776 - 33000 by
    have h1 := tB_len 1 (most := 255) t (tB 1 255 s b)
    rw [if_neg (by decide)] at h1
    have h2 := HL2.out
    omega)
  clear hw hb hf HW HB HF HR HZ
  have HW := HW1
  have HB := HB1
  have HF := HF1
  have HZ := HZ1
  have HR := HR1
  clear HW1 HB1 HF1 HZ1 HR1
  have k3 := (blk_cell HZ.out 3).trans rfl
  have hq0 := hq
  have HQ := Aside0.mk (show (tBad 255 t (tBad 255 s bad) || (decide (n < 0) || decide (2147483647 < n))) = true by rw [hq]; rw [show decide (2147483647 < n) = true from decide_eq_true (by omega), show decide (n < 0) = false from decide_eq_false (by omega)]; rfl)
  have n1 : decide (n < 0) = false := decide_eq_false (by omega)
  have n2 : decide (2147483647 < n) = true := decide_eq_true (by omega)
  clear hn hm
  rw [hq0] at HW
  have g1 := (blk_cell HW.out.ex 1).trans rfl
  have f1 := blk_frozen HW.out.ex 1
  go_upto_region 18 with fail
  clear g1 f1
  have HW1 := Aside0.mk (HW.out.spoil true)
  have HR1 := Aside0.mk (show (wn.setCell ⟨g, 1, none⟩ (.bool true)).heap[R]? = _ from (Below.heap_setCell wn ⟨g, 1, none⟩ _ R HRG.out.1).trans HR.out)
  have HZ1 := Aside0.mk (show (wn.setCell ⟨g, 1, none⟩ (.bool true)).heap[S]? = _ from (Below.heap_setCell wn ⟨g, 1, none⟩ _ S HGZ.out).trans HZ.out)
  have HB1 := Aside0.mk (below_setB (p := ⟨g, 1, none⟩) HB.out HW.out.base (.bool true))
  have HF1 := Aside0.mk (HF.out.trans (Fr.set g 1 wn (.bool true)))
  clear HW HR HB HF HZ k3
  generalize wn.setCell ⟨g, 1, none⟩ (.bool true) = wq at HW1 HR1 HB1 HF1 HZ1 ⊢
  have HW := HW1
  have HB := HB1
  have HF := HF1
  have HR := HR1
  have k3 := (blk_cell HZ1.out 3).trans rfl
  clear HW1 HB1 HF1 HR1
  go_wp2_with fail
  clear k3
  refine (num_calls HW.out (by have := HL3.out; omega) (n := 4) (by decide) (x := IntKind.u64.wrap n) (wrap_bd n)).mono ?_
  rintro en wm ⟨⟨um, rfl⟩, ⟨vm, hw⟩, hb, hf⟩
  have HW1 := Aside0.mk hw
  have HB1 := Aside0.mk (below_trans HB.out hb)
  have HF1 := Aside0.mk (HF.out.trans hf)
  have HR1 := Aside0.mk (hf R _ _ HR.out (by decide) HRG.out.1)
  clear hw hb hf HW HB HF HR HZ1
  have HW := HW1
  have HB := HB1
  have HF := HF1
  have HR := HR1
  clear HW1 HB1 HF1 HR1
  have r0 := (blk_cell HR.out 0).trans rfl
  have f0 := blk_frozen HR.out 0
  have r1 := (blk_cell HR.out 1).trans rfl
  have f1 := blk_frozen HR.out 1
  have r2 := (blk_cell HR.out 2).trans rfl
  have f2 := blk_frozen HR.out 2
  have r3 := (blk_cell HR.out 3).trans rfl
  have f3 := blk_frozen HR.out 3
  go_upto_region 23 with fail
  clear r0 f0
  clear r1 f1
  clear r2 f2
  clear r3 f3
  have HW1 := Aside0.mk (HW.out.setR HR.out (by decide) HRG.out.1 0 (.int .i64 0))
  have HR1 := Aside0.mk (blk_put (cs' := #[.int .i64 0, .string s, .string t, .int .i64 n]) HR.out 0 (.int .i64 0) rfl)
  have HB1 := Aside0.mk (below_setB (p := ⟨R, 0, none⟩) HB.out HRG.out.2.2 (.int .i64 0))
  have HF1 := Aside0.mk (HF.out.setR HNW.out 0 (.int .i64 0))
  clear HW HR HB HF
  have HW := HW1
  have HB := HB1
  have HF := HF1
  have HR := HR1
  clear HW1 HB1 HF1 HR1
  have HW1 := Aside0.mk (HW.out.setR HR.out (by decide) HRG.out.1 1 (.string ⟨#[]⟩))
  have HR1 := Aside0.mk (blk_put (cs' := #[.int .i64 0, .string ⟨#[]⟩, .string t, .int .i64 n]) HR.out 1 (.string ⟨#[]⟩) rfl)
  have HB1 := Aside0.mk (below_setB (p := ⟨R, 1, none⟩) HB.out HRG.out.2.2 (.string ⟨#[]⟩))
  have HF1 := Aside0.mk (HF.out.setR HNW.out 1 (.string ⟨#[]⟩))
  clear HW HR HB HF
  have HW := HW1
  have HB := HB1
  have HF := HF1
  have HR := HR1
  clear HW1 HB1 HF1 HR1
  have HW1 := Aside0.mk (HW.out.setR HR.out (by decide) HRG.out.1 2 (.string ⟨#[]⟩))
  have HR1 := Aside0.mk (blk_put (cs' := #[.int .i64 0, .string ⟨#[]⟩, .string ⟨#[]⟩, .int .i64 n]) HR.out 2 (.string ⟨#[]⟩) rfl)
  have HB1 := Aside0.mk (below_setB (p := ⟨R, 2, none⟩) HB.out HRG.out.2.2 (.string ⟨#[]⟩))
  have HF1 := Aside0.mk (HF.out.setR HNW.out 2 (.string ⟨#[]⟩))
  clear HW HR HB HF
  have HW := HW1
  have HB := HB1
  have HF := HF1
  have HR := HR1
  clear HW1 HB1 HF1 HR1
  have HW1 := Aside0.mk (HW.out.setR HR.out (by decide) HRG.out.1 3 (.int .i64 0))
  have HR1 := Aside0.mk (blk_put (cs' := #[.int .i64 0, .string ⟨#[]⟩, .string ⟨#[]⟩, .int .i64 0]) HR.out 3 (.int .i64 0) rfl)
  have HB1 := Aside0.mk (below_setB (p := ⟨R, 3, none⟩) HB.out HRG.out.2.2 (.int .i64 0))
  have HF1 := Aside0.mk (HF.out.setR HNW.out 3 (.int .i64 0))
  clear HW HR HB HF
  have HW := HW1
  have HB := HB1
  have HF := HF1
  have HR := HR1
  clear HW1 HB1 HF1 HR1
  generalize (((wm.setCell ⟨R, 0, none⟩ (.int .i64 0)).setCell ⟨R, 1, none⟩ (.string ⟨#[]⟩)).setCell ⟨R, 2, none⟩ (.string ⟨#[]⟩)).setCell ⟨R, 3, none⟩ (.int .i64 0) = wf at HW HR HB HF ⊢
  have g1 := (blk_cell HW.out.ex 1).trans rfl
  have f1 := blk_frozen HW.out.ex 1
  have r0 := (blk_cell HR.out 0).trans rfl
  have r1 := (blk_cell HR.out 1).trans rfl
  have r2 := (blk_cell HR.out 2).trans rfl
  have r3 := (blk_cell HR.out 3).trans rfl
  have he := fun d W => Go.Proofs.Ytfpdapdnmkadeaa.O.eqA52 d W 0 0 ⟨#[]⟩ ⟨#[]⟩ ⟨#[]⟩ ⟨#[]⟩ 0 0
  go_wp2_with fail
  exact bodyPost_end (results_none rfl _ _ _) rfl ⟨⟨_, rfl⟩, ⟨_, by rw [HK0.out, HK1.out, HQ.out]; exact HW.out.spoil true⟩, below_setB HB.out HW.out.base _, HF.out.trans (Fr.set g 1 _ _)⟩

set_option maxHeartbeats 8000000 in
set_option maxRecDepth 100000 in
theorem op_range_fit {w : World} {B g : Nat} {v : Value} {bs : List Int} {bad : Bool} (h : Wr w B g v bs bad) (hl : bs.length ≤ 1099511627776 - 100000)  (s t : ByteArray) (n : Int) (hq : tBad 255 t (tBad 255 s bad) = false) (hn : ¬ n < 0) (hm : ¬ 2147483647 < n) :
    Calls Try.prog 36 #[.pointer (some ⟨g, 0, none⟩), .agg #[.int .i64 4, .string s, .string t, .int .i64 n]] w (WPost w B g (oB ⟨4, s, t, n⟩ bs) (oBad ⟨4, s, t, n⟩ bad)) := by
  have HK0 := Aside0.mk (show oB ⟨4, s, t, n⟩ bs = tB 1 255 t (tB 1 255 s (bs ++ be 1 (IntKind.u64.wrap 4))) ++ be 4 (IntKind.u64.wrap n) by rfl)
  have HK1 := Aside0.mk (show oBad ⟨4, s, t, n⟩ bad = (tBad 255 t (tBad 255 s bad) || (decide (n < 0) || decide (2147483647 < n))) by rfl)
  have HZ := Aside0.mk (blk_new w (.cells #[.int .i64 4, .string s, .string t, .int .i64 n] 52))
  have HB := Aside0.mk (below_low (below_alloc (Below.refl w.heap.size w) (.cells #[.int .i64 4, .string s, .string t, .int .i64 n] 52)) h.low)
  have HF := Aside0.mk (Fr.below g (below_alloc (Below.refl w.heap.size w) (.cells #[.int .i64 4, .string s, .string t, .int .i64 n] 52)))
  have HW := Aside0.mk (h.below (below_alloc (Below.refl _ _) (.cells #[.int .i64 4, .string s, .string t, .int .i64 n] 52)))
  have HGZ := Aside0.mk (show w.heap.size ≠ g from Nat.ne_of_gt h.lt)
  have HL := Aside0.mk hl
  clear h hl
  go_enter Try.func36, Try.ntmps36
  go_upto_region 1 with fail
  generalize w.alloc (.cells #[.int .i64 4, .string s, .string t, .int .i64 n] 52) = w1 at HZ HB HF HW ⊢
  generalize w.heap.size = S at HZ HGZ ⊢
  have k0 := (blk_cell HZ.out 0).trans rfl
  go_wp2_with fail
  clear k0
  refine (num_calls HW.out (by have := HL.out; omega) (n := 1) (by decide) (x := IntKind.u64.wrap 4) (wrap_bd 4)).mono ?_
  rintro en w2 ⟨⟨u, rfl⟩, ⟨v2, hw⟩, hb, hf⟩
  have HW2 := Aside0.mk hw
  have HB2 := Aside0.mk (below_trans HB.out hb)
  have HF2 := Aside0.mk (HF.out.trans hf)
  have HZ2 := Aside0.mk (hf S _ _ HZ.out (by decide) HGZ.out)
  clear hw hb hf HW HB HF HZ
  have k0 := (blk_cell HZ2.out 0).trans rfl
  have k1 := (blk_cell HZ2.out 1).trans rfl
  have k2 := (blk_cell HZ2.out 2).trans rfl
  have k3 := (blk_cell HZ2.out 3).trans rfl
  go_upto_region 4 with fail
  clear k0 k1 k2 k3
  have HR := Aside0.mk (blk_new w2 (.cells #[.int .i64 0, .string s, .string t, .int .i64 n] 52))
  have HW := Aside0.mk (HW2.out.below (below_alloc (Below.refl _ _) (.cells #[.int .i64 0, .string s, .string t, .int .i64 n] 52)))
  have HB := Aside0.mk (below_trans HB2.out (below_low (below_alloc (Below.refl w2.heap.size w2) (.cells #[.int .i64 0, .string s, .string t, .int .i64 n] 52)) HW2.out.low))
  have HF := Aside0.mk (HF2.out.trans (Fr.below g (below_alloc (Below.refl w2.heap.size w2) (.cells #[.int .i64 0, .string s, .string t, .int .i64 n] 52))))
  have HZ := Aside0.mk (blk_below HZ2.out (below_alloc (Below.refl w2.heap.size w2) (.cells #[.int .i64 0, .string s, .string t, .int .i64 n] 52)))
  have HRG := Aside0.mk (show w2.heap.size ≠ g ∧ w2.heap.size ≠ S ∧ B ≤ w2.heap.size from ⟨Nat.ne_of_gt HW2.out.lt, Nat.ne_of_gt (blk_lt HZ2.out), HW2.out.low⟩)
  have HNW := Aside0.mk (show w.heap.size ≤ w2.heap.size from HB2.out.size)
  clear HW2 HB2 HF2 HZ2
  generalize w2.alloc (.cells #[.int .i64 0, .string s, .string t, .int .i64 n] 52) = w3 at HR HW HB HF HZ ⊢
  generalize w2.heap.size = R at HR HRG HNW ⊢
  have HL1 := Aside0.mk (show (bs ++ be 1 (IntKind.u64.wrap 4)).length ≤ 1099511627776 - 99999 by rw [List.length_append, be_length]; have := HL.out; omega)
  generalize bs ++ be 1 (IntKind.u64.wrap 4) = b at HL1 HW HK0
  have k0 := (blk_cell HZ.out 0).trans rfl
  have k1 := (blk_cell HZ.out 1).trans rfl
  go_wp2_with fail
  clear k1
  refine (short_calls HW.out (by have := HL1.out; omega) s).mono ?_
  rintro en wn ⟨⟨un, rfl⟩, ⟨vn, hw⟩, hb, hf⟩
  have HW1 := Aside0.mk hw
  have HB1 := Aside0.mk (below_trans HB.out hb)
  have HF1 := Aside0.mk (HF.out.trans hf)
  have HZ1 := Aside0.mk (hf S _ _ HZ.out (by decide) HGZ.out)
  have HR1 := Aside0.mk (hf R _ _ HR.out (by decide) HRG.out.1)
  have HL2 := Aside0.mk (show (tB 1 255 s b).length ≤ 1099511627776 - 99000 by
    have h1 := tB_len 1 (most := 255) s (b)
    rw [if_neg (by decide)] at h1
    have h2 := HL1.out
    omega)
  clear hw hb hf HW HB HF HR HZ
  have HW := HW1
  have HB := HB1
  have HF := HF1
  have HZ := HZ1
  have HR := HR1
  clear HW1 HB1 HF1 HZ1 HR1
  have k2 := (blk_cell HZ.out 2).trans rfl
  go_wp2_with fail
  clear k2
  refine (short_calls HW.out (by have := HL2.out; omega) t).mono ?_
  rintro en wn ⟨⟨un, rfl⟩, ⟨vn, hw⟩, hb, hf⟩
  have HW1 := Aside0.mk hw
  have HB1 := Aside0.mk (below_trans HB.out hb)
  have HF1 := Aside0.mk (HF.out.trans hf)
  have HZ1 := Aside0.mk (hf S _ _ HZ.out (by decide) HGZ.out)
  have HR1 := Aside0.mk (hf R _ _ HR.out (by decide) HRG.out.1)
  have HL3 := Aside0.mk (show (tB 1 255 t (tB 1 255 s b)).length ≤ 1099511627776 - 33000 by
    have h1 := tB_len 1 (most := 255) t (tB 1 255 s b)
    rw [if_neg (by decide)] at h1
    have h2 := HL2.out
    omega)
  clear hw hb hf HW HB HF HR HZ
  have HW := HW1
  have HB := HB1
  have HF := HF1
  have HZ := HZ1
  have HR := HR1
  clear HW1 HB1 HF1 HZ1 HR1
  have k3 := (blk_cell HZ.out 3).trans rfl
  have hq0 := hq
  have HQ := Aside0.mk (show (tBad 255 t (tBad 255 s bad) || (decide (n < 0) || decide (2147483647 < n))) = false by rw [hq]; rw [show decide (2147483647 < n) = false from decide_eq_false (by omega), show decide (n < 0) = false from decide_eq_false (by omega)]; rfl)
  have n1 : decide (n < 0) = false := decide_eq_false (by omega)
  have n2 : decide (2147483647 < n) = false := decide_eq_false (by omega)
  clear hn hm
  rw [hq0] at HW
  have g1 := (blk_cell HW.out.ex 1).trans rfl
  have f1 := blk_frozen HW.out.ex 1
  go_upto_region 18 with fail
  clear g1 f1
  have HW1 := Aside0.mk (HW.out.spoil false)
  have HR1 := Aside0.mk (show (wn.setCell ⟨g, 1, none⟩ (.bool false)).heap[R]? = _ from (Below.heap_setCell wn ⟨g, 1, none⟩ _ R HRG.out.1).trans HR.out)
  have HZ1 := Aside0.mk (show (wn.setCell ⟨g, 1, none⟩ (.bool false)).heap[S]? = _ from (Below.heap_setCell wn ⟨g, 1, none⟩ _ S HGZ.out).trans HZ.out)
  have HB1 := Aside0.mk (below_setB (p := ⟨g, 1, none⟩) HB.out HW.out.base (.bool false))
  have HF1 := Aside0.mk (HF.out.trans (Fr.set g 1 wn (.bool false)))
  clear HW HR HB HF HZ k3
  generalize wn.setCell ⟨g, 1, none⟩ (.bool false) = wq at HW1 HR1 HB1 HF1 HZ1 ⊢
  have HW := HW1
  have HB := HB1
  have HF := HF1
  have HR := HR1
  have k3 := (blk_cell HZ1.out 3).trans rfl
  clear HW1 HB1 HF1 HR1
  go_wp2_with fail
  clear k3
  refine (num_calls HW.out (by have := HL3.out; omega) (n := 4) (by decide) (x := IntKind.u64.wrap n) (wrap_bd n)).mono ?_
  rintro en wm ⟨⟨um, rfl⟩, ⟨vm, hw⟩, hb, hf⟩
  have HW1 := Aside0.mk hw
  have HB1 := Aside0.mk (below_trans HB.out hb)
  have HF1 := Aside0.mk (HF.out.trans hf)
  have HR1 := Aside0.mk (hf R _ _ HR.out (by decide) HRG.out.1)
  clear hw hb hf HW HB HF HR HZ1
  have HW := HW1
  have HB := HB1
  have HF := HF1
  have HR := HR1
  clear HW1 HB1 HF1 HR1
  have r0 := (blk_cell HR.out 0).trans rfl
  have f0 := blk_frozen HR.out 0
  have r1 := (blk_cell HR.out 1).trans rfl
  have f1 := blk_frozen HR.out 1
  have r2 := (blk_cell HR.out 2).trans rfl
  have f2 := blk_frozen HR.out 2
  have r3 := (blk_cell HR.out 3).trans rfl
  have f3 := blk_frozen HR.out 3
  go_upto_region 23 with fail
  clear r0 f0
  clear r1 f1
  clear r2 f2
  clear r3 f3
  have HW1 := Aside0.mk (HW.out.setR HR.out (by decide) HRG.out.1 0 (.int .i64 0))
  have HR1 := Aside0.mk (blk_put (cs' := #[.int .i64 0, .string s, .string t, .int .i64 n]) HR.out 0 (.int .i64 0) rfl)
  have HB1 := Aside0.mk (below_setB (p := ⟨R, 0, none⟩) HB.out HRG.out.2.2 (.int .i64 0))
  have HF1 := Aside0.mk (HF.out.setR HNW.out 0 (.int .i64 0))
  clear HW HR HB HF
  have HW := HW1
  have HB := HB1
  have HF := HF1
  have HR := HR1
  clear HW1 HB1 HF1 HR1
  have HW1 := Aside0.mk (HW.out.setR HR.out (by decide) HRG.out.1 1 (.string ⟨#[]⟩))
  have HR1 := Aside0.mk (blk_put (cs' := #[.int .i64 0, .string ⟨#[]⟩, .string t, .int .i64 n]) HR.out 1 (.string ⟨#[]⟩) rfl)
  have HB1 := Aside0.mk (below_setB (p := ⟨R, 1, none⟩) HB.out HRG.out.2.2 (.string ⟨#[]⟩))
  have HF1 := Aside0.mk (HF.out.setR HNW.out 1 (.string ⟨#[]⟩))
  clear HW HR HB HF
  have HW := HW1
  have HB := HB1
  have HF := HF1
  have HR := HR1
  clear HW1 HB1 HF1 HR1
  have HW1 := Aside0.mk (HW.out.setR HR.out (by decide) HRG.out.1 2 (.string ⟨#[]⟩))
  have HR1 := Aside0.mk (blk_put (cs' := #[.int .i64 0, .string ⟨#[]⟩, .string ⟨#[]⟩, .int .i64 n]) HR.out 2 (.string ⟨#[]⟩) rfl)
  have HB1 := Aside0.mk (below_setB (p := ⟨R, 2, none⟩) HB.out HRG.out.2.2 (.string ⟨#[]⟩))
  have HF1 := Aside0.mk (HF.out.setR HNW.out 2 (.string ⟨#[]⟩))
  clear HW HR HB HF
  have HW := HW1
  have HB := HB1
  have HF := HF1
  have HR := HR1
  clear HW1 HB1 HF1 HR1
  have HW1 := Aside0.mk (HW.out.setR HR.out (by decide) HRG.out.1 3 (.int .i64 0))
  have HR1 := Aside0.mk (blk_put (cs' := #[.int .i64 0, .string ⟨#[]⟩, .string ⟨#[]⟩, .int .i64 0]) HR.out 3 (.int .i64 0) rfl)
  have HB1 := Aside0.mk (below_setB (p := ⟨R, 3, none⟩) HB.out HRG.out.2.2 (.int .i64 0))
  have HF1 := Aside0.mk (HF.out.setR HNW.out 3 (.int .i64 0))
  clear HW HR HB HF
  have HW := HW1
  have HB := HB1
  have HF := HF1
  have HR := HR1
  clear HW1 HB1 HF1 HR1
  generalize (((wm.setCell ⟨R, 0, none⟩ (.int .i64 0)).setCell ⟨R, 1, none⟩ (.string ⟨#[]⟩)).setCell ⟨R, 2, none⟩ (.string ⟨#[]⟩)).setCell ⟨R, 3, none⟩ (.int .i64 0) = wf at HW HR HB HF ⊢
  have g1 := (blk_cell HW.out.ex 1).trans rfl
  have f1 := blk_frozen HW.out.ex 1
  have r0 := (blk_cell HR.out 0).trans rfl
  have r1 := (blk_cell HR.out 1).trans rfl
  have r2 := (blk_cell HR.out 2).trans rfl
  have r3 := (blk_cell HR.out 3).trans rfl
  have he := fun d W => Go.Proofs.Ytfpdapdnmkadeaa.O.eqA52 d W 0 0 ⟨#[]⟩ ⟨#[]⟩ ⟨#[]⟩ ⟨#[]⟩ 0 0
  go_wp2_with fail
  exact bodyPost_end (results_none rfl _ _ _) rfl ⟨⟨_, rfl⟩, ⟨_, by rw [HK0.out, HK1.out, HQ.out]; exact HW.out.spoil false⟩, below_setB HB.out HW.out.base _, HF.out.trans (Fr.set g 1 _ _)⟩

theorem op_calls {w : World} {B g : Nat} {v : Value} {bs : List Int} {bad : Bool} (h : Wr w B g v bs bad) (hl : bs.length ≤ 1099511627776 - 100000) (o : S52) :
    Calls Try.prog 36 #[.pointer (some ⟨g, 0, none⟩), .agg #[.int .i64 o.f0, .string o.f1, .string o.f2, .int .i64 o.f3]] w (WPost w B g (oB o bs) (oBad o bad)) := by
  obtain ⟨K, s, t, n⟩ := o
  show Calls Try.prog 36 #[.pointer (some ⟨g, 0, none⟩), .agg #[.int .i64 K, .string s, .string t, .int .i64 n]] w (WPost w B g (oB ⟨K, s, t, n⟩ bs) (oBad ⟨K, s, t, n⟩ bad))
  by_cases hK : K < 1 ∨ 7 < K
  · exact op_none h hl K s t n hK
  · have h7 : K = 1 ∨ K = 2 ∨ K = 3 ∨ K = 4 ∨ K = 5 ∨ K = 6 ∨ K = 7 := by omega
    rcases h7 with rfl | rfl | rfl | rfl | rfl | rfl | rfl
    · exact op_put h hl s t n
    · exact op_del h hl s t n
    · exact op_get h hl s t n
    · cases hq : tBad 255 t (tBad 255 s bad)
      · by_cases hn : n < 0
        · exact op_range_neg h hl s t n hq hn
        · by_cases hm : 2147483647 < n
          · exact op_range_big h hl s t n hq hn hm
          · exact op_range_fit h hl s t n hq hn hm
      · exact op_range_bad h hl s t n hq
    · exact op_sync h hl s t n
    · exact op_reopen h hl s t n
    · exact op_stat h hl s t n
end Go.Proofs.Ytfpdapdnmkadeaa.Wire
