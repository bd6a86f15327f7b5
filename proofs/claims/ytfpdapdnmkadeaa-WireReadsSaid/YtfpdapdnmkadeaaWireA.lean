/- wire.Answer: what its call comes to. -/
import Derived.Test.YtfpdapdnmkadeaaWireE
namespace Go.Proofs.Ytfpdapdnmkadeaa.Wire
open Go.RowKit Go.Proofs.YtfpdapdnmkadeaaW.PrintWords Go.Proofs.YtfpdapdnmkadeaaW.PrintLast Go.Proofs.YtfpdapdnmkadeaaW.PrintMore
open Go.Proofs.Ytfpdapdnmkadeaa Go.Proofs.Ytfpdapdnmkadeaa.Vals Go.Proofs.Ytfpdapdnmkadeaa.Word Go.Proofs.Ytfpdapdnmkadeaa.Q
set_option linter.unusedVariables false
set_option linter.unusedSimpArgs false

def aB (E : Int) (s : ByteArray) (l : List S27) : List Int := psB l (tB 2 65535 s (be 1 (IntKind.u64.wrap E)) ++ be 4 (l.length : Int))
def eBad (E : Int) : Bool := decide (E < 0) || decide (255 < E)
def aBad (E : Int) (s : ByteArray) (l : List S27) : Bool := psBad l (tBad 65535 s (eBad E))
def APost (w : World) (bad : Bool) (bs : List Int) (e : Ending) (w' : World) : Prop := ∃ u z, e = .returned (.tuple #[u, .int .i64 z]) ∧ (bad = true → u = .slice none 0 0 ∧ z = 2) ∧ (bad = false → z = 0 ∧ Kd.R (Kd.int .u8) 5 w' w.heap.size (fun _ => True) u bs) ∧ Below w.heap.size w w'
theorem wrap_bd (E : Int) : 0 ≤ IntKind.u64.wrap E ∧ IntKind.u64.wrap E < 18446744073709551616 := by
  simp [IntKind.wrap, IntKind.signed, IntKind.bits]
  omega

theorem answer_long (E : Int) (s : ByteArray) (A : Option Addr) (c n : Nat) (hn : 65536 < n) (w : World) : Calls Try.prog 9 #[.agg #[.int .i64 E, .string s, .slice A n c]] w fun e w' => e = .returned (.tuple #[.slice none 0 0, .int .i64 6]) ∧ Below w.heap.size w w' := by
  have g1 : decide ((65536 : Int) < (n : Int)) = true := decide_eq_true (by omega)
  have g2 : decide (65536 < n) = true := decide_eq_true hn
  have HB := Aside0.mk (below_alloc (Below.refl w.heap.size w) (.cells #[.int .i64 E, .string s, .slice A n c] 25))
  clear hn
  go_enter Try.func9, Try.ntmps9
  go_wp2_with fail
  go_ret2
  exact ⟨by simp, HB.out⟩

set_option maxHeartbeats 4000000 in
theorem answer_calls (E : Int) (s : ByteArray) (A : Option Addr) (c : Nat) (l : List S27) (hn : l.length ≤ 65536) (w : World) (hC : Kd.C k27 w A l.length l) :
    Calls Try.prog 9 #[.agg #[.int .i64 E, .string s, .slice A l.length c]] w (APost w (aBad E s l) (aB E s l)) := by
  have g1 : decide ((65536 : Int) < (l.length : Int)) = false := decide_eq_false (by omega)
  have g2 : decide (65536 < l.length) = false := decide_eq_false (by omega)
  have hcase : (decide (E < 0) = true ∧ eBad E = true) ∨ (decide (E < 0) = false ∧ decide (255 < E) = eBad E) := by
    unfold eBad
    by_cases h : E < 0
    · exact Or.inl ⟨decide_eq_true h, by simp [h]⟩
    · exact Or.inr ⟨decide_eq_false h, by simp [h]⟩
  have HZ := Aside0.mk (blk_new w (.cells #[.int .i64 E, .string s, .slice A l.length c] 25))
  have HB := Aside0.mk (below_alloc (Below.refl w.heap.size w) (.cells #[.int .i64 E, .string s, .slice A l.length c] 25))
  have HL := Aside0.mk hC
  have HLE := Aside0.mk hn
  have HWB := Aside0.mk (wrap_bd E)
  clear hC hn
  go_enter Try.func9, Try.ntmps9
  go_upto_region 1 with fail
  generalize w.alloc (.cells #[.int .i64 E, .string s, .slice A l.length c] 25) = w1 at HZ HB ⊢
  obtain ⟨S, hS⟩ : ∃ S, w.heap.size = S := ⟨_, rfl⟩
  have HS := Aside0.mk hS
  rw [hS] at HZ
  try rw [hS]
  clear hS
  have k0 := (blk_cell HZ.out 0).trans rfl
  have k1 := (blk_cell HZ.out 1).trans rfl
  have k2 := (blk_cell HZ.out 2).trans rfl
  rcases hcase with ⟨d0, d1⟩ | ⟨d0, d1⟩
  · have d1' : eBad E = true := d1
    go_upto_region 4 with fail
    clear k0 k1 k2
    have HW2 := Aside0.mk (show Wr (w1.alloc (.cells #[.slice none 0 0, .bool (true)] 55)) w1.heap.size w1.heap.size (.slice none 0 0) [] (eBad E) from ⟨by rw [d1']; exact blk_new w1 _, Kd.R_nil _ _ _ _ _, Nat.le_refl _⟩)
    have HB2 := Aside0.mk (below_alloc HB.out (.cells #[.slice none 0 0, .bool (true)] 55))
    have HZ2 := Aside0.mk (blk_below HZ.out (below_alloc (Below.refl _ _) (.cells #[.slice none 0 0, .bool (true)] 55)))
    have HSG := Aside0.mk (show S < w1.heap.size from blk_lt HZ.out)
    have HSB := Aside0.mk (show w.heap.size ≤ w1.heap.size from HB.out.size)
    clear HZ HB
    generalize w1.alloc (.cells #[.slice none 0 0, .bool (true)] 55) = w2 at HW2 HB2 HZ2 ⊢
    generalize w1.heap.size = g at HW2 HSG HSB ⊢
    have k0 := (blk_cell HZ2.out 0).trans rfl
    go_wp2_with fail
    clear k0
    refine (num_calls HW2.out (by simp) (n := 1) (by decide) HWB.out).mono ?_
    rintro en w3 ⟨⟨u, rfl⟩, ⟨v3, hw⟩, hb, hf⟩
    rw [List.nil_append] at hw
    have HW3 := Aside0.mk hw
    have HL3 := Aside0.mk hb
    have HZ3 := Aside0.mk ((hb.block S HSG.out).trans HZ2.out)
    clear hw hb hf HW2 HZ2
    have k1 := (blk_cell HZ3.out 1).trans rfl
    go_wp2_with fail
    clear k1
    refine (long_calls HW3.out (by rw [be_length]; decide) s).mono ?_
    rintro en w4 ⟨⟨u4, rfl⟩, ⟨v4, hw⟩, hb, hf⟩
    have HW4 := Aside0.mk hw
    have HL4 := Aside0.mk (below_trans HL3.out hb)
    have HZ4 := Aside0.mk ((hb.block S HSG.out).trans HZ3.out)
    clear hw hb hf HW3 HZ3 HL3
    have k2 := (blk_cell HZ4.out 2).trans rfl
    go_wp2_with fail
    clear k2
    have hbw : Below w.heap.size w w4 := ⟨HL4.out.os.trans HB2.out.os, HL4.out.tape.trans HB2.out.tape, HL4.out.output.trans HB2.out.output, Nat.le_trans HB2.out.size HL4.out.size, fun k hk => (HL4.out.block k (Nat.lt_of_lt_of_le hk HSB.out)).trans (HB2.out.block k hk)⟩
    refine (each_calls HW4.out (by have := tB_len 2 (most := 65535) s (be 1 (IntKind.u64.wrap E)); rw [if_neg (by decide), be_length] at this; omega) A c l HLE.out HL.out hbw HSB.out).mono ?_
    rintro en w5 ⟨⟨u5, rfl⟩, ⟨v5, hw⟩, hb, hf⟩
    have HW5 := Aside0.mk (show Wr w5 g g v5 (aB E s l) (aBad E s l) from hw)
    have HB5 := Aside0.mk (show Below w.heap.size w w5 from ⟨hb.os.trans hbw.os, hb.tape.trans hbw.tape, hb.output.trans hbw.output, Nat.le_trans hbw.size hb.size, fun k hk => (hb.block k (Nat.lt_of_lt_of_le hk HSB.out)).trans (hbw.block k hk)⟩)
    clear hw hb hf hbw HW4 HZ4 HL4 HB2
    have k1 := (blk_cell HW5.out.ex 1).trans rfl
    have k0 := (blk_cell HW5.out.ex 0).trans rfl
    have HR5 := Aside0.mk (Kd.R_lower HW5.out.row HSB.out)
    obtain ⟨bb, hbb⟩ : ∃ bb, aBad E s l = bb := ⟨_, rfl⟩
    rw [hbb] at k1
    have HBB := Aside0.mk hbb
    clear hbb
    cases bb
    · go_wp2_with fail
      go_ret2
      exact ⟨v5, 0, by simp, (fun h => absurd (h.symm.trans HBB.out) (by decide)), fun _ => ⟨rfl, Kd.R_mono HR5.out (fun _ _ => trivial)⟩, HB5.out⟩
    · go_wp2_with fail
      go_ret2
      exact ⟨.slice none 0 0, 2, by simp, fun _ => ⟨rfl, rfl⟩, (fun h => absurd (h.symm.trans HBB.out) (by decide)), HB5.out⟩
  · have d1' : eBad E = eBad E := rfl
    go_upto_region 4 with fail
    clear k0 k1 k2
    have HW2 := Aside0.mk (show Wr (w1.alloc (.cells #[.slice none 0 0, .bool (eBad E)] 55)) w1.heap.size w1.heap.size (.slice none 0 0) [] (eBad E) from ⟨by rw [d1']; exact blk_new w1 _, Kd.R_nil _ _ _ _ _, Nat.le_refl _⟩)
    have HB2 := Aside0.mk (below_alloc HB.out (.cells #[.slice none 0 0, .bool (eBad E)] 55))
    have HZ2 := Aside0.mk (blk_below HZ.out (below_alloc (Below.refl _ _) (.cells #[.slice none 0 0, .bool (eBad E)] 55)))
    have HSG := Aside0.mk (show S < w1.heap.size from blk_lt HZ.out)
    have HSB := Aside0.mk (show w.heap.size ≤ w1.heap.size from HB.out.size)
    clear HZ HB
    generalize w1.alloc (.cells #[.slice none 0 0, .bool (eBad E)] 55) = w2 at HW2 HB2 HZ2 ⊢
    generalize w1.heap.size = g at HW2 HSG HSB ⊢
    have k0 := (blk_cell HZ2.out 0).trans rfl
    go_wp2_with fail
    clear k0
    refine (num_calls HW2.out (by simp) (n := 1) (by decide) HWB.out).mono ?_
    rintro en w3 ⟨⟨u, rfl⟩, ⟨v3, hw⟩, hb, hf⟩
    rw [List.nil_append] at hw
    have HW3 := Aside0.mk hw
    have HL3 := Aside0.mk hb
    have HZ3 := Aside0.mk ((hb.block S HSG.out).trans HZ2.out)
    clear hw hb hf HW2 HZ2
    have k1 := (blk_cell HZ3.out 1).trans rfl
    go_wp2_with fail
    clear k1
    refine (long_calls HW3.out (by rw [be_length]; decide) s).mono ?_
    rintro en w4 ⟨⟨u4, rfl⟩, ⟨v4, hw⟩, hb, hf⟩
    have HW4 := Aside0.mk hw
    have HL4 := Aside0.mk (below_trans HL3.out hb)
    have HZ4 := Aside0.mk ((hb.block S HSG.out).trans HZ3.out)
    clear hw hb hf HW3 HZ3 HL3
    have k2 := (blk_cell HZ4.out 2).trans rfl
    go_wp2_with fail
    clear k2
    have hbw : Below w.heap.size w w4 := ⟨HL4.out.os.trans HB2.out.os, HL4.out.tape.trans HB2.out.tape, HL4.out.output.trans HB2.out.output, Nat.le_trans HB2.out.size HL4.out.size, fun k hk => (HL4.out.block k (Nat.lt_of_lt_of_le hk HSB.out)).trans (HB2.out.block k hk)⟩
    refine (each_calls HW4.out (by have := tB_len 2 (most := 65535) s (be 1 (IntKind.u64.wrap E)); rw [if_neg (by decide), be_length] at this; omega) A c l HLE.out HL.out hbw HSB.out).mono ?_
    rintro en w5 ⟨⟨u5, rfl⟩, ⟨v5, hw⟩, hb, hf⟩
    have HW5 := Aside0.mk (show Wr w5 g g v5 (aB E s l) (aBad E s l) from hw)
    have HB5 := Aside0.mk (show Below w.heap.size w w5 from ⟨hb.os.trans hbw.os, hb.tape.trans hbw.tape, hb.output.trans hbw.output, Nat.le_trans hbw.size hb.size, fun k hk => (hb.block k (Nat.lt_of_lt_of_le hk HSB.out)).trans (hbw.block k hk)⟩)
    clear hw hb hf hbw HW4 HZ4 HL4 HB2
    have k1 := (blk_cell HW5.out.ex 1).trans rfl
    have k0 := (blk_cell HW5.out.ex 0).trans rfl
    have HR5 := Aside0.mk (Kd.R_lower HW5.out.row HSB.out)
    obtain ⟨bb, hbb⟩ : ∃ bb, aBad E s l = bb := ⟨_, rfl⟩
    rw [hbb] at k1
    have HBB := Aside0.mk hbb
    clear hbb
    cases bb
    · go_wp2_with fail
      go_ret2
      exact ⟨v5, 0, by simp, (fun h => absurd (h.symm.trans HBB.out) (by decide)), fun _ => ⟨rfl, Kd.R_mono HR5.out (fun _ _ => trivial)⟩, HB5.out⟩
    · go_wp2_with fail
      go_ret2
      exact ⟨.slice none 0 0, 2, by simp, fun _ => ⟨rfl, rfl⟩, (fun h => absurd (h.symm.trans HBB.out) (by decide)), HB5.out⟩
end Go.Proofs.Ytfpdapdnmkadeaa.Wire
