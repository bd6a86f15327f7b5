/- What writes a pair, and a row of pairs. -/
import Derived.Test.YtfpdapdnmkadeaaWireW
namespace Go.Proofs.Ytfpdapdnmkadeaa.Wire
open Go.RowKit Go.Proofs.YtfpdapdnmkadeaaW.PrintWords Go.Proofs.YtfpdapdnmkadeaaW.PrintLast Go.Proofs.YtfpdapdnmkadeaaW.PrintMore
open Go.Proofs.Ytfpdapdnmkadeaa Go.Proofs.Ytfpdapdnmkadeaa.Vals Go.Proofs.Ytfpdapdnmkadeaa.Word Go.Proofs.Ytfpdapdnmkadeaa.Q
set_option linter.unusedVariables false
set_option linter.unusedSimpArgs false

theorem tB_len (n : Nat) {most : Int} (s : ByteArray) (bs : List Int) : ((tB n most s bs).length : Int) ≤ bs.length + n + (if most < 0 then 0 else most) := by
  unfold tB
  split
  · split <;> omega
  · rename_i h
    rw [List.length_append, List.length_append, be_length, bytesOf_length, if_neg (by omega)]
    omega
theorem short_calls {w : World} {B g : Nat} {v : Value} {bs : List Int} {bad : Bool} (h : Wr w B g v bs bad) (hl : bs.length ≤ 1099511627776 - 8) (s : ByteArray) :
    Calls Try.prog 43 #[.pointer (some ⟨g, 0, none⟩), .string s] w (WPost w B g (tB 1 255 s bs) (tBad 255 s bad)) := by
  have HT := Aside0.mk (text_calls h hl (n := 1) (by decide) 255 (by decide) s)
  clear h
  go_enter Try.func43, Try.ntmps43
  go_wp2_with fail
  refine HT.out.mono ?_
  rintro en w1 ⟨⟨u, rfl⟩, hw, hb⟩
  have HW := Aside0.mk (And.intro hw hb)
  clear hw hb HT
  go_wp2_with fail
  exact bodyPost_end (results_none rfl _ _ _) rfl ⟨⟨_, rfl⟩, HW.out.1, HW.out.2⟩
theorem long_calls {w : World} {B g : Nat} {v : Value} {bs : List Int} {bad : Bool} (h : Wr w B g v bs bad) (hl : bs.length ≤ 1099511627776 - 8) (s : ByteArray) :
    Calls Try.prog 23 #[.pointer (some ⟨g, 0, none⟩), .string s] w (WPost w B g (tB 2 65535 s bs) (tBad 65535 s bad)) := by
  have HT := Aside0.mk (text_calls h hl (n := 2) (by decide) 65535 (by decide) s)
  clear h
  go_enter Try.func23, Try.ntmps23
  go_wp2_with fail
  refine HT.out.mono ?_
  rintro en w1 ⟨⟨u, rfl⟩, hw, hb⟩
  have HW := Aside0.mk (And.intro hw hb)
  clear hw hb HT
  go_wp2_with fail
  exact bodyPost_end (results_none rfl _ _ _) rfl ⟨⟨_, rfl⟩, HW.out.1, HW.out.2⟩

def pB (p : S27) (bs : List Int) : List Int := tB 2 65535 p.f1 (tB 1 255 p.f0 bs)
def pBad (p : S27) (bad : Bool) : Bool := tBad 65535 p.f1 (tBad 255 p.f0 bad)
theorem pB_len (p : S27) (bs : List Int) : (pB p bs).length ≤ bs.length + 65793 := by
  unfold pB
  have h1 := tB_len 1 (most := 255) p.f0 bs
  have h2 := tB_len 2 (most := 65535) p.f1 (tB 1 255 p.f0 bs)
  rw [if_neg (by decide)] at h1 h2
  omega
theorem pair_calls {w : World} {B g : Nat} {v : Value} {bs : List Int} {bad : Bool} (h : Wr w B g v bs bad) (hl : bs.length ≤ 1099511627776 - 100000) (p : S27) :
    Calls Try.prog 25 #[.pointer (some ⟨g, 0, none⟩), .agg #[.string p.f0, .string p.f1]] w (WPost w B g (pB p bs) (pBad p bad)) := by
  have HZ := Aside0.mk (blk_new w (.cells #[.string p.f0, .string p.f1] 27))
  have HB := Aside0.mk (below_low (below_alloc (Below.refl w.heap.size w) (.cells #[.string p.f0, .string p.f1] 27)) h.low)
  have HF := Aside0.mk (Fr.below g (below_alloc (Below.refl w.heap.size w) (.cells #[.string p.f0, .string p.f1] 27)))
  have HW := Aside0.mk (h.below (below_alloc (Below.refl _ _) (.cells #[.string p.f0, .string p.f1] 27)))
  have HGZ := Aside0.mk (show w.heap.size ≠ g from Nat.ne_of_gt h.lt)
  clear h
  go_enter Try.func25, Try.ntmps25
  go_upto_region 1 with fail
  generalize w.alloc (.cells #[.string p.f0, .string p.f1] 27) = w1 at HZ HB HF HW ⊢
  generalize w.heap.size = S at HZ HGZ ⊢
  have k0 := (blk_cell HZ.out 0).trans rfl
  go_wp2_with fail
  clear k0
  refine (short_calls HW.out (by omega) p.f0).mono ?_
  rintro en w2 ⟨⟨u, rfl⟩, ⟨v2, hw⟩, hb, hf⟩
  have HW2 := Aside0.mk hw
  have HB2 := Aside0.mk (below_trans HB.out hb)
  have HZ2 := Aside0.mk (hf S _ _ HZ.out (by decide) HGZ.out)
  have HF2 := Aside0.mk (HF.out.trans hf)
  clear hw hb hf HW HB HF HZ
  have k1 := (blk_cell HZ2.out 1).trans rfl
  go_wp2_with fail
  clear k1
  refine (long_calls HW2.out (by have := tB_len 1 (most := 255) p.f0 bs; rw [if_neg (by decide)] at this; omega) p.f1).mono ?_
  rintro en w3 ⟨⟨u2, rfl⟩, ⟨v3, hw⟩, hb, hf⟩
  have HW3 := Aside0.mk hw
  have HB3 := Aside0.mk (below_trans HB2.out hb)
  have HF3 := Aside0.mk (HF2.out.trans hf)
  clear hw hb hf
  go_wp2_with fail
  exact bodyPost_end (results_none rfl _ _ _) rfl ⟨⟨_, rfl⟩, ⟨_, HW3.out⟩, HB3.out, HF3.out⟩

def psB (l : List S27) (bs : List Int) : List Int := l.foldl (fun b p => pB p b) bs
def psBad (l : List S27) (bad : Bool) : Bool := l.foldl (fun b p => pBad p b) bad
theorem psB_snoc (l : List S27) (p : S27) (bs : List Int) : psB (l ++ [p]) bs = pB p (psB l bs) := by simp [psB]
theorem psBad_snoc (l : List S27) (p : S27) (bad : Bool) : psBad (l ++ [p]) bad = pBad p (psBad l bad) := by simp [psBad]
theorem psB_len (l : List S27) : ∀ bs, (psB l bs).length ≤ bs.length + 65793 * l.length := by
  induction l with
  | nil => intro bs; simp [psB]
  | cons p t ih =>
    intro bs
    have h1 := ih (pB p bs)
    have h2 := pB_len p bs
    show (psB t (pB p bs)).length ≤ _
    rw [List.length_cons]
    omega
theorem pair_at {w : World} {A : Option Addr} {n : Nat} {xs : List S27} (h : Kd.C k27 w A n xs) {i : Nat} (hi : i < n) (hx : i < xs.length) :
    ∃ ad, A = some ad ∧ w.cell? (ad.add (i * 2)) = some (.string (xs[i]).f0) ∧ w.cell? ⟨(ad.add (i * 2)).block, (ad.add (i * 2)).off + 1, none⟩ = some (.string (xs[i]).f1) := by
  obtain ⟨ad, e, h0, h1⟩ := at_T27 h (i : Int) (by omega) (by omega)
  have hr : rd_T27 xs (i : Int) = xs[i] := by unfold rd_T27; rw [Int.toNat_natCast, List.getD_eq_getElem?_getD, List.getElem?_eq_getElem hx]; rfl
  rw [hr, Int.toNat_natCast] at h0 h1
  exact ⟨ad, e, h0, h1⟩

set_option maxHeartbeats 4000000 in
theorem each_calls {w0 w : World} {B g : Nat} {v : Value} {bs : List Int} {bad : Bool} (h : Wr w B g v bs bad) (hl : bs.length ≤ 100000) (A : Option Addr) (c : Nat) (l : List S27) (hn : l.length ≤ 65536) (hC : Kd.C k27 w0 A l.length l) (hb0 : Below w0.heap.size w0 w) (h0 : w0.heap.size ≤ B) :
    Calls Try.prog 24 #[.pointer (some ⟨g, 0, none⟩), .slice A l.length c, .func (.func 25) #[.pointer (some ⟨g, 0, none⟩)] #[]] w (WPost w B g (psB l (bs ++ be 4 (l.length : Int))) (psBad l bad)) := by
  have HNC := Aside0.mk (num_calls h (by omega) (n := 4) (by decide) (x := (l.length : Int)) ⟨by omega, by omega⟩)
  have HL := Aside0.mk hC
  have HLE := Aside0.mk hn
  have HBS := Aside0.mk (show (bs ++ be 4 (l.length : Int)).length ≤ 100004 by rw [List.length_append, be_length]; omega)
  have HB0 := Aside0.mk hb0
  have hw : IntKind.u64.wrap (l.length : Int) = (l.length : Int) := by simp [IntKind.wrap, IntKind.signed, IntKind.bits]; omega
  clear h hC hb0
  go_enter Try.func24, Try.ntmps24
  go_wp2_with fail
  clear hw
  refine HNC.out.mono ?_
  rintro en w1 ⟨⟨u, rfl⟩, ⟨v1, hw1⟩, hb1, hf1⟩
  have HW1 := Aside0.mk hw1
  have HB1 := Aside0.mk hb1
  have HF1 := Aside0.mk hf1
  clear hw1 hb1 hf1 HNC
  obtain ⟨bs1, hbs1⟩ : ∃ bs1, bs ++ be 4 (l.length : Int) = bs1 := ⟨_, rfl⟩
  have HQ := Aside0.mk hbs1
  rw [hbs1] at HW1 HBS
  clear hbs1
  go_wp2_with fail
  go_loopg [15] (l.length + 1) (fun kq v15 wx => ∃ (i : Nat) (v : Value), v15 = .int .i64 (i : Int) ∧ Aside0 (kq = l.length + 1 - i ∧ i ≤ l.length) ∧ Aside0 (Wr wx B g v (psB (l.take i) bs1) (psBad (l.take i) bad)) ∧ Aside0 (Below B w wx) ∧ Aside0 (Fr g w wx))
  case atStart => exact ⟨0, v1, rfl, ⟨rfl, by omega⟩, HW1, HB1, HF1⟩
  case round =>
    clear HW1 HB1 HF1
    obtain ⟨i, v2, rfl, HI, HW, HB, HF⟩ := hrel
    by_cases hi : i < l.length
    · have g1 : decide ((i : Int) < (l.length : Int)) = true := decide_eq_true (by omega)
      obtain ⟨ad, rfl, c0, c1⟩ := pair_at HL.out hi hi
      have hbl : Below w0.heap.size w0 wr := ⟨HB.out.os.trans HB0.out.os, HB.out.tape.trans HB0.out.tape, HB.out.output.trans HB0.out.output, Nat.le_trans HB0.out.size HB.out.size, fun k hk => (HB.out.block k (by omega)).trans (HB0.out.block k hk)⟩
      have c0 := (hbl.cell (World.block_lt_of_cell? w0 _ c0)).trans c0
      have c1 := (hbl.cell (World.block_lt_of_cell? w0 _ c1)).trans c1
      have HS := Aside0.mk (show psB (l.take (i + 1)) bs1 = pB l[i] (psB (l.take i) bs1) ∧ psBad (l.take (i + 1)) bad = pBad l[i] (psBad (l.take i) bad) from by rw [List.take_succ_eq_append_getElem hi, psB_snoc, psBad_snoc]; exact ⟨rfl, rfl⟩)
      have HLN := Aside0.mk (show (psB (l.take i) bs1).length ≤ 1099511627776 - 100000 by
        have h1 := psB_len (l.take i) bs1
        have h2 := HBS.out
        have h3 := HLE.out
        rw [List.length_take] at h1
        have h4 : min i l.length ≤ 65536 := by omega
        have h5 : 65793 * min i l.length ≤ 65793 * 65536 := Nat.mul_le_mul_left _ h4
        omega)
      generalize l[i] = p at c0 c1 HS
      clear hbl
      go_upto_region 4 with fail
      clear c0 c1
      have HZ := Aside0.mk (blk_new wr (.cells #[.string p.f0, .string p.f1] 27))
      have HB4 := Aside0.mk (below_trans HB.out (below_low (below_alloc (Below.refl wr.heap.size wr) (.cells #[.string p.f0, .string p.f1] 27)) HW.out.low))
      have HF4 := Aside0.mk (HF.out.trans (Fr.below g (below_alloc (Below.refl wr.heap.size wr) (.cells #[.string p.f0, .string p.f1] 27))))
      have HW4 := Aside0.mk (HW.out.below (below_alloc (Below.refl _ _) (.cells #[.string p.f0, .string p.f1] 27)))
      clear HB HF HW
      generalize wr.alloc (.cells #[.string p.f0, .string p.f1] 27) = w4 at HZ HB4 HF4 HW4 ⊢
      generalize wr.heap.size = S at HZ ⊢
      have k0 := (blk_cell HZ.out 0).trans rfl
      have k1 := (blk_cell HZ.out 1).trans rfl
      go_wp2_with fail
      clear k0 k1
      refine (pair_calls HW4.out HLN.out p).mono ?_
      rintro en w5 ⟨⟨u5, rfl⟩, ⟨v5, hw⟩, hb, hf⟩
      have HW5 := Aside0.mk hw
      have HB5 := Aside0.mk (below_trans HB4.out hb)
      have HF5 := Aside0.mk (HF4.out.trans hf)
      clear hw hb hf HW4 HB4 HF4 HZ
      go_wp2_with fail
      go_roundg (l.length - i)
      case measure => have := HI.out; omega
      case rel => exact ⟨i + 1, v5, by simp, ⟨by omega, by omega⟩, ⟨by rw [HS.out.1, HS.out.2]; exact HW5.out⟩, HB5, HF5⟩
    · have g1 : decide ((i : Int) < (l.length : Int)) = false := decide_eq_false (by omega)
      obtain rfl : i = l.length := by have := HI.out; omega
      go_wp2_with fail
      have hW := HW.out
      rw [List.take_length] at hW
      exact bodyPost_end (results_none rfl _ _ _) rfl ⟨⟨_, rfl⟩, ⟨_, by rw [HQ.out]; exact hW⟩, HB.out, HF.out⟩
end Go.Proofs.Ytfpdapdnmkadeaa.Wire
