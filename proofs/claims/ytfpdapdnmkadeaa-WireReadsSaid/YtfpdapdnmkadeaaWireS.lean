/- wire.Script: what its call comes to, for every script. -/
import Derived.Test.YtfpdapdnmkadeaaWireO
namespace Go.Proofs.Ytfpdapdnmkadeaa.Wire
open Go.RowKit Go.Proofs.YtfpdapdnmkadeaaW.PrintWords Go.Proofs.YtfpdapdnmkadeaaW.PrintLast Go.Proofs.YtfpdapdnmkadeaaW.PrintMore
open Go.Proofs.Ytfpdapdnmkadeaa Go.Proofs.Ytfpdapdnmkadeaa.Vals Go.Proofs.Ytfpdapdnmkadeaa.Word Go.Proofs.Ytfpdapdnmkadeaa.Q
open Go.Proofs.Ytfpdapdnmkadeaa.O (S52 k52 z52 rd_T52 at_T52)
set_option linter.unusedVariables false
set_option linter.unusedSimpArgs false

def osB (l : List S52) (bs : List Int) : List Int := l.foldl (fun b p => oB p b) bs
def osBad (l : List S52) (bad : Bool) : Bool := l.foldl (fun b p => oBad p b) bad
theorem osB_snoc (l : List S52) (p : S52) (bs : List Int) : osB (l ++ [p]) bs = oB p (osB l bs) := by simp [osB]
theorem osBad_snoc (l : List S52) (p : S52) (bad : Bool) : osBad (l ++ [p]) bad = oBad p (osBad l bad) := by simp [osBad]
theorem osB_len (l : List S52) : ∀ bs, (osB l bs).length ≤ bs.length + 65800 * l.length := by
  induction l with
  | nil => intro bs; simp [osB]
  | cons p t ih =>
    intro bs
    have h1 := ih (oB p bs)
    have h2 := oB_len p bs
    show (osB t (oB p bs)).length ≤ _
    rw [List.length_cons]
    omega
theorem op_at {w : World} {A : Option Addr} {n : Nat} {xs : List S52} (h : Kd.C k52 w A n xs) {i : Nat} (hi : i < n) (hx : i < xs.length) :
    ∃ ad, A = some ad ∧ w.cell? (ad.add (i * 4)) = some (.int .i64 (xs[i]).f0) ∧ w.cell? ⟨(ad.add (i * 4)).block, (ad.add (i * 4)).off + 1, none⟩ = some (.string (xs[i]).f1) ∧ w.cell? ⟨(ad.add (i * 4)).block, (ad.add (i * 4)).off + 2, none⟩ = some (.string (xs[i]).f2) ∧ w.cell? ⟨(ad.add (i * 4)).block, (ad.add (i * 4)).off + 3, none⟩ = some (.int .i64 (xs[i]).f3) := by
  obtain ⟨ad, e, h0, h1, h2, h3⟩ := at_T52 h (i : Int) (by omega) (by omega)
  have hr : rd_T52 xs (i : Int) = xs[i] := by unfold rd_T52; rw [Int.toNat_natCast, List.getD_eq_getElem?_getD, List.getElem?_eq_getElem hx]; rfl
  rw [hr, Int.toNat_natCast] at h0 h1 h2 h3
  exact ⟨ad, e, h0, h1, h2, h3⟩

set_option maxHeartbeats 4000000 in
theorem eachop_calls {w0 w : World} {B g : Nat} {v : Value} {bs : List Int} {bad : Bool} (h : Wr w B g v bs bad) (hl : bs.length ≤ 100000) (A : Option Addr) (c : Nat) (l : List S52) (hn : l.length ≤ 65536) (hC : Kd.C k52 w0 A l.length l) (hb0 : Below w0.heap.size w0 w) (h0 : w0.heap.size ≤ B) :
    Calls Try.prog 35 #[.pointer (some ⟨g, 0, none⟩), .slice A l.length c, .func (.func 36) #[.pointer (some ⟨g, 0, none⟩)] #[]] w (WPost w B g (osB l (bs ++ be 4 (l.length : Int))) (osBad l bad)) := by
  have HNC := Aside0.mk (num_calls h (by omega) (n := 4) (by decide) (x := (l.length : Int)) ⟨by omega, by omega⟩)
  have HL := Aside0.mk hC
  have HLE := Aside0.mk hn
  have HBS := Aside0.mk (show (bs ++ be 4 (l.length : Int)).length ≤ 100004 by rw [List.length_append, be_length]; omega)
  have HB0 := Aside0.mk hb0
  have hw : IntKind.u64.wrap (l.length : Int) = (l.length : Int) := by simp [IntKind.wrap, IntKind.signed, IntKind.bits]; omega
  clear h hC hb0
  go_enter Try.func35, Try.ntmps35
  go_wp2_with fail
  clear hw
  refine HNC.out.mono ?_
  rintro en w1 ⟨⟨u, rfl⟩, ⟨v1, hw1⟩, hb1, hf1⟩
  have HW1 := Aside0.mk hw1
  have HB1 := Aside0.mk hb1
  have HF1 := Aside0.mk hf1
  clear hw1 hb1 hf1 HNC
  obtain ⟨bs1, hbs1⟩ : ∃ bs1, bs ++ be 4 (l.length : Int) = bs1 := ⟨_, rfl⟩
  have HQ := Aside0.mk hbs1
  rw [hbs1] at HW1 HBS
  clear hbs1
  go_wp2_with fail
  go_loopg [15] (l.length + 1) (fun kq v15 wx => ∃ (i : Nat) (v : Value), v15 = .int .i64 (i : Int) ∧ Aside0 (kq = l.length + 1 - i ∧ i ≤ l.length) ∧ Aside0 (Wr wx B g v (osB (l.take i) bs1) (osBad (l.take i) bad)) ∧ Aside0 (Below B w wx) ∧ Aside0 (Fr g w wx))
  case atStart => exact ⟨0, v1, rfl, ⟨rfl, by omega⟩, HW1, HB1, HF1⟩
  case round =>
    clear HW1 HB1 HF1
    obtain ⟨i, v2, rfl, HI, HW, HB, HF⟩ := hrel
    by_cases hi : i < l.length
    · have g1 : decide ((i : Int) < (l.length : Int)) = true := decide_eq_true (by omega)
      obtain ⟨ad, rfl, c0, c1, c2, c3⟩ := op_at HL.out hi hi
      have hbl : Below w0.heap.size w0 wr := ⟨HB.out.os.trans HB0.out.os, HB.out.tape.trans HB0.out.tape, HB.out.output.trans HB0.out.output, Nat.le_trans HB0.out.size HB.out.size, fun k hk => (HB.out.block k (by omega)).trans (HB0.out.block k hk)⟩
      have c0 := (hbl.cell (World.block_lt_of_cell? w0 _ c0)).trans c0
      have c1 := (hbl.cell (World.block_lt_of_cell? w0 _ c1)).trans c1
      have c2 := (hbl.cell (World.block_lt_of_cell? w0 _ c2)).trans c2
      have c3 := (hbl.cell (World.block_lt_of_cell? w0 _ c3)).trans c3
      have HS := Aside0.mk (show osB (l.take (i + 1)) bs1 = oB l[i] (osB (l.take i) bs1) ∧ osBad (l.take (i + 1)) bad = oBad l[i] (osBad (l.take i) bad) from by rw [List.take_succ_eq_append_getElem hi, osB_snoc, osBad_snoc]; exact ⟨rfl, rfl⟩)
      have HLN := Aside0.mk (show (osB (l.take i) bs1).length ≤ 1099511627776 - 100000 by
        have h1 := osB_len (l.take i) bs1
        have h2 := HBS.out
        have h3 := HLE.out
        rw [List.length_take] at h1
        have h4 : min i l.length ≤ 65536 := by omega
        have h5 : 65800 * min i l.length ≤ 65800 * 65536 := Nat.mul_le_mul_left _ h4
        omega)
      generalize l[i] = p at c0 c1 c2 c3 HS
      clear hbl
      go_upto_region 4 with fail
      clear c0 c1 c2 c3
      have HZ := Aside0.mk (blk_new wr (.cells #[.int .i64 p.f0, .string p.f1, .string p.f2, .int .i64 p.f3] 52))
      have HB4 := Aside0.mk (below_trans HB.out (below_low (below_alloc (Below.refl wr.heap.size wr) (.cells #[.int .i64 p.f0, .string p.f1, .string p.f2, .int .i64 p.f3] 52)) HW.out.low))
      have HF4 := Aside0.mk (HF.out.trans (Fr.below g (below_alloc (Below.refl wr.heap.size wr) (.cells #[.int .i64 p.f0, .string p.f1, .string p.f2, .int .i64 p.f3] 52))))
      have HW4 := Aside0.mk (HW.out.below (below_alloc (Below.refl _ _) (.cells #[.int .i64 p.f0, .string p.f1, .string p.f2, .int .i64 p.f3] 52)))
      clear HB HF HW
      generalize wr.alloc (.cells #[.int .i64 p.f0, .string p.f1, .string p.f2, .int .i64 p.f3] 52) = w4 at HZ HB4 HF4 HW4 ⊢
      generalize wr.heap.size = S at HZ ⊢
      have k0 := (blk_cell HZ.out 0).trans rfl
      have k1 := (blk_cell HZ.out 1).trans rfl
      have k2 := (blk_cell HZ.out 2).trans rfl
      have k3 := (blk_cell HZ.out 3).trans rfl
      go_wp2_with fail
      clear k0 k1 k2 k3
      refine (op_calls HW4.out HLN.out p).mono ?_
      rintro en w5 ⟨⟨u5, rfl⟩, ⟨v5, hw⟩, hb, hf⟩
      have HW5 := Aside0.mk hw
      have HB5 := Aside0.mk (below_trans HB4.out hb)
      have HF5 := Aside0.mk (HF4.out.trans hf)
      clear hw hb hf HW4 HB4 HF4 HZ
      go_wp2_with fail
      go_roundg (l.length - i)
      case measure => have := HI.out; omega
      case rel => exact ⟨i + 1, v5, by simp, ⟨by omega, by omega⟩, ⟨by rw [HS.out.1, HS.out.2]; exact HW5.out⟩, HB5, HF5⟩
    · have g1 : decide ((i : Int) < (l.length : Int)) = false := decide_eq_false (by omega)
      obtain rfl : i = l.length := by have := HI.out; omega
      go_wp2_with fail
      have hW := HW.out
      rw [List.take_length] at hW
      exact bodyPost_end (results_none rfl _ _ _) rfl ⟨⟨_, rfl⟩, ⟨_, by rw [HQ.out]; exact hW⟩, HB.out, HF.out⟩

def sB (l : List S52) : List Int := osB l (be 4 (l.length : Int))
def sBad (l : List S52) : Bool := osBad l false
set_option maxHeartbeats 4000000 in
theorem script_calls (A : Option Addr) (c : Nat) (l : List S52) (hn : l.length ≤ 65536) (w : World) (hC : Kd.C k52 w A l.length l) :
    Calls Try.prog 16 #[.slice A l.length c] w (APost w (sBad l) (sB l)) := by
  have g1 : decide ((65536 : Int) < (l.length : Int)) = false := decide_eq_false (by omega)
  have g2 : decide (65536 < l.length) = false := decide_eq_false (by omega)
  have HW := Aside0.mk (show Wr (w.alloc (.cells #[.slice none 0 0, .bool false] 55)) w.heap.size w.heap.size (.slice none 0 0) [] false from ⟨blk_new w _, Kd.R_nil _ _ _ _ _, Nat.le_refl _⟩)
  have HB := Aside0.mk (below_alloc (Below.refl w.heap.size w) (.cells #[.slice none 0 0, .bool false] 55))
  have HL := Aside0.mk hC
  have HLE := Aside0.mk hn
  clear hC hn
  go_enter Try.func16, Try.ntmps16
  go_upto_region 4 with fail
  generalize w.alloc (.cells #[.slice none 0 0, .bool false] 55) = w1 at HW HB ⊢
  obtain ⟨g, hg⟩ : ∃ g, w.heap.size = g := ⟨_, rfl⟩
  have HGG := Aside0.mk hg
  rw [hg] at HW
  try rw [hg]
  clear hg g1 g2
  go_wp2_with fail
  refine (eachop_calls HW.out (by simp) A c l HLE.out HL.out HB.out (by rw [HGG.out]; exact Nat.le_refl _)).mono ?_
  rintro en w2 ⟨⟨u, rfl⟩, ⟨v2, hw⟩, hb, hf⟩
  rw [List.nil_append] at hw
  have HW2 := Aside0.mk (show Wr w2 g g v2 (sB l) (sBad l) from hw)
  have HB2 := Aside0.mk (show Below w.heap.size w w2 from below_trans HB.out (by rw [HGG.out]; exact hb))
  have k1 := (blk_cell HW2.out.ex 1).trans rfl
  have k0 := (blk_cell HW2.out.ex 0).trans rfl
  clear hw hb hf
  obtain ⟨bb, hbb⟩ : ∃ bb, sBad l = bb := ⟨_, rfl⟩
  rw [hbb] at k1
  have HBB := Aside0.mk hbb
  clear hbb
  have HR2 := Aside0.mk (show Kd.R (Kd.int .u8) 5 w2 w.heap.size (fun k => k ≠ g) v2 (sB l) by rw [HGG.out]; exact HW2.out.row)
  cases bb
  · go_wp2_with fail
    go_ret2
    exact ⟨v2, 0, by simp, (fun h => absurd (h.symm.trans HBB.out) (by decide)), fun _ => ⟨rfl, Kd.R_mono HR2.out (fun _ _ => trivial)⟩, HB2.out⟩
  · go_wp2_with fail
    go_ret2
    exact ⟨.slice none 0 0, 2, by simp, fun _ => ⟨rfl, rfl⟩, (fun h => absurd (h.symm.trans HBB.out) (by decide)), HB2.out⟩
end Go.Proofs.Ytfpdapdnmkadeaa.Wire
