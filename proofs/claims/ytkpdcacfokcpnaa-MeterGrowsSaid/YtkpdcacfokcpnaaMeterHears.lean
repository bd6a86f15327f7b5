/- MeterHears: what the law's call comes to. -/
import Derived.Test.YtkpdcacfokcpnaaMeterRef
namespace Go.Proofs.Ytkpdcacfokcpnaa.Q
open Go.RowKit Go.Proofs.YtkpdcacfokcpnaaW.PrintWords Go.Proofs.YtkpdcacfokcpnaaW.PrintLast Go.Proofs.YtkpdcacfokcpnaaW.PrintMore
open Go.Proofs.Ytkpdcacfokcpnaa Go.Proofs.Ytkpdcacfokcpnaa.Vals
set_option linter.unusedVariables false
set_option linter.unusedSimpArgs false

theorem eqA35 (d : Nat) (w : World) (x0 y0 : Int) (x1 y1 : Int) : (Op.equalIn (d + 2) 35 (.agg #[.int .u64 x0, .int .u64 x1]) (.agg #[.int .u64 y0, .int .u64 y1])).run Try.prog w = .ok (x0 == y0 && (x1 == y1)) w := by
  refine eqA_of Try.underlying35 (by kernel_rfl) ?_
  refine eqf_cons (by rfl) (by go_simp; rfl) (by go_simp; rfl) (by go_simp) ?_
  exact eqf_last (by rfl) (by go_simp; rfl) (by go_simp; rfl) (by go_simp)

theorem op_at {w : World} {A : Option Addr} {n : Nat} {xs : List S37} (h : Kd.C k37 w A n xs) {i : Nat} (hi : i < n) (hx : i < xs.length) :
    ∃ ad, A = some ad ∧ w.cell? (ad.add (i * 5)) = some (.int .i64 (xs[i]).f0) ∧ w.cell? ⟨(ad.add (i * 5)).block, (ad.add (i * 5)).off + 1, none⟩ = some (.bool (xs[i]).f1) ∧ w.cell? ⟨(ad.add (i * 5)).block, (ad.add (i * 5)).off + 2, none⟩ = some (.int .i64 (xs[i]).f2) ∧ w.cell? ⟨(ad.add (i * 5)).block, (ad.add (i * 5)).off + 3, none⟩ = some (.int .u64 (xs[i]).f3.f0) ∧ w.cell? ⟨(ad.add (i * 5)).block, (ad.add (i * 5)).off + 4, none⟩ = some (.int .u64 (xs[i]).f3.f1) := by
  obtain ⟨ad, e, h0, h1, h2, h3, h4⟩ := at_T37 h (i : Int) (by omega) (by omega)
  rw [rdT hx, Int.toNat_natCast] at h0 h1 h2 h3 h4
  exact ⟨ad, e, h0, h1, h2, h3, h4⟩

set_option maxRecDepth 100000 in
theorem hears_wrong (c : Cfg) (hr : ¬ c.right) (v : Value) (ask : Int) (w : World) : Calls Try.prog 5 #[c.v, v, .int .i64 ask] w fun e w' => e = .returned (.bool true) ∧ Below w.heap.size w w' := by
  have HZ := Aside0.mk (show CfgAt (w.alloc (.cells #[.int .i64 c.blocks, .int .i64 c.bytes, .int .i64 c.frames, .int .i64 c.fan, .int .i64 c.buf, .int .i64 c.leaf, .int .i64 c.key, .int .i64 c.val] 23)) w.heap.size c from ⟨blk_new w _⟩)
  have HB := Aside0.mk (below_alloc (Below.refl w.heap.size w) (.cells #[.int .i64 c.blocks, .int .i64 c.bytes, .int .i64 c.frames, .int .i64 c.fan, .int .i64 c.buf, .int .i64 c.leaf, .int .i64 c.key, .int .i64 c.val] 23))
  have hrr := fun w => rright_calls c w
  rw [decide_eq_false hr] at hrr
  have HRR := Aside0.mk hrr
  have HNW := Aside0.mk (fun w => new_wrong c hr w)
  clear hrr hr
  go_enter Try.func5, Try.ntmps5
  go_wp2_with fail
  refine (HNW.out _).mono ?_
  rintro en w1 ⟨rfl, hb⟩
  have HZ1 := Aside0.mk (HZ.out.below hb)
  have HB1 := Aside0.mk (below_step HB.out hb)
  clear hb
  obtain ⟨k0, k1, k2, k3, k4, k5, k6, k7⟩ := HZ1.out.cells
  go_wp2_with fail
  refine (HRR.out _).mono ?_
  rintro en w2 ⟨rfl, hb⟩
  have HB2 := Aside0.mk (below_step HB1.out hb)
  clear hb k0 k1 k2 k3 k4 k5 k6 k7
  go_wp2_with fail
  refine (awake_calls _).mono ?_
  rintro en w4 ⟨rfl, hb⟩
  have HB4 := Aside0.mk (below_step HB2.out hb)
  clear hb
  go_wp2_with fail
  go_ret
  exact ⟨by simp, HB4.out⟩

theorem info_op : (Try.prog.info? 37).map (fun i => (i.zero, i.size, i.bytes)) = some (some (.agg #[.int .i64 0, .bool false, .int .i64 0, .int .u64 0, .int .u64 0]), 5, 40) := by kernel_rfl
theorem R_empty {α : Type} (d : Kd α) (W : World) (base e : Nat) (hb : base ≤ W.heap.size) : d.R e (W.alloc (.cells #[] e)) base (fun _ => True) (.slice (some ⟨W.heap.size, 0, none⟩) 0 0) [] :=
  ⟨fun _ _ => trivial, OwnRow.lit W base (Reps.none _ _) hb (by simp)⟩

/-- What a round leaves. -/
structure Hs (w0 : World) (S g B : Nat) (c : Cfg) (h h2 : List S37) (v9 : Value) (n : Nat) (w : World) : Prop where
  met : Met w g c h
  cfg : CfgAt w S c
  row : Kd.R k37 37 w B (fun _ => True) v9 h2
  len : h2.length ≤ n
  below : Below w0.heap.size w0 w
  base : B ≤ w.heap.size
  lt : w0.heap.size ≤ S ∧ S < g ∧ g < B
theorem grown_none {w w' : World} (h : Below w.heap.size w w') : w.grownBy w' none := ⟨h.os, h.tape, h.output, h.size, fun k hk _ => h.block k hk⟩
theorem Hs.mono {w0 w w' : World} {S g B : Nat} {c : Cfg} {h h2 : List S37} {v9 : Value} {n : Nat} (hs : Hs w0 S g B c h h2 v9 n w) (hb : Below w.heap.size w w') : Hs w0 S g B c h h2 v9 n w' :=
  ⟨hs.met.below hb, hs.cfg.below hb, Kd.R_grown2 hs.row rfl (grown_none hb) (fun k hk => by cases hk), hs.len, below_step hs.below hb, Nat.le_trans hs.base hb.size, hs.lt⟩
theorem Hs.hear {w0 w w' : World} {S g B : Nat} {c : Cfg} {h h2 h' : List S37} {v9 : Value} {n : Nat} (hs : Hs w0 S g B c h h2 v9 n w) (hm : Met w' g c h') (hk : Keeps (fun k => k = g) w w') : Hs w0 S g B c h' h2 v9 n w' := by
  have hl := hs.lt
  refine ⟨hm, ⟨hk.blk hs.cfg.blk (fun h => by omega)⟩, Kd.R_grown2 hs.row rfl (row := some g) ⟨hk.os, hk.tape, hk.output, hk.size, fun k hk2 hn => hk.block k hk2 (fun e => hn (by rw [e]))⟩ (fun k hk2 h => ?_), hs.len, Keeps.below_then hs.below (Nat.le_refl _) hk (fun i hi => by have : i = g := hi; omega), Nat.le_trans hs.base hk.size, hs.lt⟩
  cases hk2
  have := Kd.R_base hs.row g h.symm
  omega
theorem Hs.app {w0 w w' : World} {S g B : Nat} {c : Cfg} {h h2 h' : List S37} {v9 v' : Value} {n m : Nat} (hs : Hs w0 S g B c h h2 v9 n w) (hr : Kd.R k37 37 w' B (fun _ => True) v' h') (hb : Below B w w') (hm : h'.length ≤ m) : Hs w0 S g B c h h' v' m w' := by
  have hl := hs.lt
  refine ⟨hs.met.move (hb.block g hl.2.2), ⟨(hb.block S (by omega)).trans hs.cfg.blk⟩, hr, hm, ?_, Nat.le_trans hs.base hb.size, hs.lt⟩
  exact ⟨hb.os.trans hs.below.os, hb.tape.trans hs.below.tape, hb.output.trans hs.below.output, Nat.le_trans hs.below.size hb.size, fun k hk => (hb.block k (by omega)).trans (hs.below.block k hk)⟩
theorem Hs.longer {w0 w : World} {S g B : Nat} {c : Cfg} {h h2 : List S37} {v9 : Value} {n m : Nat} (hs : Hs w0 S g B c h h2 v9 n w) (hm : n ≤ m) : Hs w0 S g B c h h2 v9 m w := ⟨hs.met, hs.cfg, hs.row, Nat.le_trans hs.len hm, hs.below, hs.base, hs.lt⟩

set_option maxHeartbeats 4000000 in
set_option maxRecDepth 100000 in
theorem hears_right (c : Cfg) (hr : c.right) (A0 : Option Addr) (c0 : Nat) (l : List S37) (ask : Int) (w : World) (hC : Kd.C k37 w A0 l.length l) (hc : l.length ≤ c0) (hl : ∀ o ∈ l, 0 ≤ o.f3.f0 ∧ 0 ≤ o.f3.f1) :
    Calls Try.prog 5 #[c.v, .slice A0 l.length c0, .int .i64 ask] w fun e w' => e = .returned (.bool true) ∧ Below w.heap.size w w' := by
  have HZ := Aside0.mk (show CfgAt (w.alloc (.cells #[.int .i64 c.blocks, .int .i64 c.bytes, .int .i64 c.frames, .int .i64 c.fan, .int .i64 c.buf, .int .i64 c.leaf, .int .i64 c.key, .int .i64 c.val] 23)) w.heap.size c from ⟨blk_new w _⟩)
  have HB := Aside0.mk (below_alloc (Below.refl w.heap.size w) (.cells #[.int .i64 c.blocks, .int .i64 c.bytes, .int .i64 c.frames, .int .i64 c.fan, .int .i64 c.buf, .int .i64 c.leaf, .int .i64 c.key, .int .i64 c.val] 23))
  have hrr := fun w => rright_calls c w
  rw [decide_eq_true hr] at hrr
  have HRR := Aside0.mk hrr
  have HNW := Aside0.mk (fun w => new_right c hr w)
  have HCR := Aside0.mk hr
  have HL := Aside0.mk hC
  have HWF := Aside0.mk hl
  clear hrr hr hC hl
  go_enter Try.func5, Try.ntmps5
  go_wp2_with fail
  refine (HNW.out _).mono ?_
  rintro en w1 ⟨g, rfl, hm, hg, hb⟩
  have HZ1 := Aside0.mk (HZ.out.below hb)
  have HB1 := Aside0.mk (below_step HB.out hb)
  have HM1 := Aside0.mk hm
  have HGG := Aside0.mk (show w.heap.size < g by have h1 := blk_lt HZ.out.blk; omega)
  clear hb hm hg
  obtain ⟨k0, k1, k2, k3, k4, k5, k6, k7⟩ := HZ1.out.cells
  go_wp2_with fail
  refine (HRR.out _).mono ?_
  rintro en w2 ⟨rfl, hb⟩
  have HZ2 := Aside0.mk (HZ1.out.below hb)
  have HB2 := Aside0.mk (below_step HB1.out hb)
  have HM2 := Aside0.mk (HM1.out.below hb)
  clear hb k0 k1 k2 k3 k4 k5 k6 k7 HZ1 HB1 HM1 HZ HB HNW HRR
  go_wp2_with fail
  have HS0 := Aside0.mk (show Hs w w.heap.size g w2.heap.size c [] [] (.slice (some ⟨w2.heap.size, 0, none⟩) 0 0) 0 (w2.alloc (.cells #[] 37)) from
    ⟨HM2.out.below (below_alloc (Below.refl _ _) _), HZ2.out.below (below_alloc (Below.refl _ _) _), R_empty _ _ _ _ (Nat.le_refl _), Nat.le_refl _, below_alloc HB2.out _, by rw [show (w2.alloc (.cells #[] 37)).heap.size = w2.heap.size + 1 from Array.size_push _]; omega, Nat.le_refl _, HGG.out, HM2.out.lt⟩)
  obtain ⟨S, hS⟩ : ∃ S, w.heap.size = S := ⟨_, rfl⟩
  obtain ⟨B, hB⟩ : ∃ B, w2.heap.size = B := ⟨_, rfl⟩
  have HSE := Aside0.mk hS
  generalize w2.alloc (.cells #[] 37) = w3 at HS0 ⊢
  rw [hS, hB] at HS0
  rw [hS, hB]
  clear hS hB HZ2 HB2 HM2 HGG
  go_loopg [9, 10] 201 (fun kq v9 v10 wx => ∃ (i : Nat) (h : List S37), v10 = .int .i64 (i : Int) ∧ Aside0 (kq = 201 - i ∧ i ≤ 200) ∧ Aside0 (Hs w S g B c h h v9 i wx))
  case atStart => exact ⟨0, [], rfl, ⟨rfl, by omega⟩, HS0⟩
  case round =>
    clear HS0
    obtain ⟨i, h, rfl, HI, HH⟩ := hrel
    go_upto_region 8 with fail
    go_cut [53] from 46 to 88 (fun v53 wx => v53 = .bool (decide (i < l.length ∧ i < 200)) ∧ wx = wr)
    case first =>
      by_cases p1 : i < l.length
      · have g1 : decide ((i : Int) < (l.length : Int)) = true := decide_eq_true (by omega)
        by_cases p2 : i < 200
        · have g2 : decide ((i : Int) < 200) = true := decide_eq_true (by omega)
          go_wp2_with fail
          go_meet
          case rel => exact ⟨by rw [decide_eq_true (show i < l.length ∧ i < 200 from ⟨p1, p2⟩)], rfl⟩
        · have g2 : decide ((i : Int) < 200) = false := decide_eq_false (by omega)
          go_wp2_with fail
          go_meet
          case rel => exact ⟨by rw [decide_eq_false (show ¬ (i < l.length ∧ i < 200) from by omega)], rfl⟩
      · have g1 : decide ((i : Int) < (l.length : Int)) = false := decide_eq_false (by omega)
        go_wp2_with fail
        go_meet
        case rel => exact ⟨by rw [decide_eq_false (show ¬ (i < l.length ∧ i < 200) from by omega)], rfl⟩
    case rest =>
      obtain ⟨rfl, hw⟩ := hcut
      subst hw
      by_cases hgo : i < l.length ∧ i < 200
      · rw [decide_eq_true hgo]
        obtain ⟨hi, h200⟩ := hgo
        have hi' : (i : Int) < (l.length : Int) := by omega
        obtain ⟨ad, rfl, q0, q1, q2, q3, q4⟩ := op_at HL.out hi hi
        have q0 := (HH.out.below.cell (World.block_lt_of_cell? w _ q0)).trans q0
        have q1 := (HH.out.below.cell (World.block_lt_of_cell? w _ q1)).trans q1
        have q2 := (HH.out.below.cell (World.block_lt_of_cell? w _ q2)).trans q2
        have q3 := (HH.out.below.cell (World.block_lt_of_cell? w _ q3)).trans q3
        have q4 := (HH.out.below.cell (World.block_lt_of_cell? w _ q4)).trans q4
        have hwf := HWF.out _ (List.getElem_mem hi)
        obtain ⟨o, ho⟩ : ∃ o, l[i] = o := ⟨_, rfl⟩
        rw [ho] at q0 q1 q2 q3 q4 hwf
        have HO0 := Aside0.mk hwf
        clear ho hwf
        go_wp2_with fail
        clear q0 q1 q2 q3 q4
        have HT0 := Aside0.mk (blk_new wc (.cells #[.int .i64 o.f0, .bool o.f1, .int .i64 o.f2, .int .u64 o.f3.f0, .int .u64 o.f3.f1] 37))
        have HH1 := Aside0.mk (HH.out.mono (below_alloc (Below.refl _ _) (.cells #[.int .i64 o.f0, .bool o.f1, .int .i64 o.f2, .int .u64 o.f3.f0, .int .u64 o.f3.f1] 37)))
        have HTG := Aside0.mk (show wc.heap.size ≠ g from Nat.ne_of_gt HH.out.met.lt)
        clear HH
        generalize wc.alloc (.cells #[.int .i64 o.f0, .bool o.f1, .int .i64 o.f2, .int .u64 o.f3.f0, .int .u64 o.f3.f1] 37) = w4 at HT0 HH1 ⊢
        generalize wc.heap.size = T at HT0 HTG ⊢
        by_cases hmay : May o
        · have hrm := fun w => rmay_calls o w
          rw [decide_eq_true hmay] at hrm
          have HRM := Aside0.mk hrm
          have HMAY := Aside0.mk hmay
          clear hrm hmay
          refine (hear_ok HH1.out.met o HMAY.out HO0.out.1 HO0.out.2 (by have := HH1.out.len; omega)).mono ?_
          rintro en w5 ⟨rfl, hm, hk⟩
          have HT5 := Aside0.mk (hk.blk HT0.out HTG.out)
          have HH5 := Aside0.mk (HH1.out.hear hm hk)
          clear hm hk HT0 HH1
          have t0 := (blk_cell HT5.out 0).trans rfl
          have t1 := (blk_cell HT5.out 1).trans rfl
          have t2 := (blk_cell HT5.out 2).trans rfl
          have t3 := (blk_cell HT5.out 3).trans rfl
          have t4 := (blk_cell HT5.out 4).trans rfl
          go_wp2_with fail
          refine (HRM.out _).mono ?_
          rintro en w6 ⟨rfl, hb⟩
          have HT6 := Aside0.mk (blk_below HT5.out hb)
          have HH6 := Aside0.mk (HH5.out.mono hb)
          clear hb t0 t1 t2 t3 t4 HT5 HH5
          have t0 := (blk_cell HT6.out 0).trans rfl
          have t1 := (blk_cell HT6.out 1).trans rfl
          have t2 := (blk_cell HT6.out 2).trans rfl
          have t3 := (blk_cell HT6.out 3).trans rfl
          have t4 := (blk_cell HT6.out 4).trans rfl
          have hlen := HH6.out.len
          go_wp2_with (first | (at_builtin; refine Kd.R_append k37 (w0 := w6) B rfl (.tmp 85) (.tmp 87) 29 37 (.agg #[.int .i64 0, .bool false, .int .i64 0, .int .u64 0, .int .u64 0]) 40 rfl Try.underlying29 info_op rfl (by decide) (by omega) u9 h o [.int .i64 o.f0, .bool o.f1, .int .i64 o.f2, .int .u64 o.f3.f0, .int .u64 o.f3.f1] (fun _ => True) (fun _ => False) rfl rfl ?aP (fun _ hk => hk.elim) ?aF ?aO ?aB ?aS ?aL ?_; (case aP => exact k37_mkM _ _ _ _); (case aB => exact Below.refl _ _); (case aF => exact (fun _ _ => trivial)); (case aO => exact HH6.out.row); (case aS => exact HH6.out.base); (case aL => omega); intro v112 w9 ho hb hg hat; have HH9 := Aside0.mk (HH6.out.app ho hb (m := i + 1) (by simp; omega)); clear ho hb hg hat))
          go_wp2_with fail
          go_roundg (200 - i)
          case measure => have := HI.out; omega
          case rel => exact ⟨i + 1, h ++ [o], by simp, ⟨by omega, by omega⟩, HH9⟩
        · have hrm := fun w => rmay_calls o w
          rw [decide_eq_false hmay] at hrm
          have HRM := Aside0.mk hrm
          have HMAY := Aside0.mk hmay
          clear hrm hmay
          refine (hear_bad HH1.out.met o HMAY.out).mono ?_
          rintro en w5 ⟨rfl, hb⟩
          have HT5 := Aside0.mk (blk_below HT0.out hb)
          have HH5 := Aside0.mk (HH1.out.mono hb)
          clear hb HT0 HH1
          have t0 := (blk_cell HT5.out 0).trans rfl
          have t1 := (blk_cell HT5.out 1).trans rfl
          have t2 := (blk_cell HT5.out 2).trans rfl
          have t3 := (blk_cell HT5.out 3).trans rfl
          have t4 := (blk_cell HT5.out 4).trans rfl
          go_wp2_with fail
          refine (HRM.out _).mono ?_
          rintro en w6 ⟨rfl, hb⟩
          have HH6 := Aside0.mk (HH5.out.mono hb)
          clear hb t0 t1 t2 t3 t4 HT5 HH5
          go_wp2_with fail
          go_roundg (200 - i)
          case measure => have := HI.out; omega
          case rel => exact ⟨i + 1, h, by simp, ⟨by omega, by omega⟩, ⟨HH6.out.longer (by omega)⟩⟩
      · rw [decide_eq_false hgo]
        clear hgo
        have hlen := HH.out.len
        have hi200 := HI.out.2
        have HHD := Aside0.mk (show Heard h ∧ h.length ≤ 1048576 from ⟨HH.out.met.heard, by omega⟩)
        obtain ⟨A9, c9, hv9, hc9, hC9⟩ := Kd.R_reads HH.out.row
        have HOP := Aside0.mk (show Ops h u9 wc from ⟨A9, c9, hv9, hc9, hC9⟩)
        clear hv9 hc9 hC9 hlen hi200
        obtain ⟨⟨n1, n2⟩, ⟨n3, n4⟩, ⟨n5, n6⟩⟩ := heard_bd h HHD.out.1
        have hl := HHD.out.2
        obtain ⟨xc, hxc⟩ : ∃ x, nChg h = x := ⟨_, rfl⟩
        obtain ⟨xf, hxf⟩ : ∃ x, nFull h = x := ⟨_, rfl⟩
        obtain ⟨xh, hxh⟩ : ∃ x, hiOf h = x := ⟨_, rfl⟩
        have hch := changes_any HH.out.met
        have hrb := fun w => rbound_calls c HCR.out (nChg h) (nFull h) (hiOf h) ⟨n1, by omega⟩ ⟨n3, by omega⟩ ⟨by omega, by omega⟩ w
        rw [hxc, hxf, hxh] at hch hrb
        obtain ⟨bb, hbb⟩ : ∃ bb, bnd c xc xf xh = bb := ⟨_, rfl⟩
        rw [hbb] at hrb
        have HBB := Aside0.mk (show mBnd c h = bb from by unfold mBnd; rw [hxc, hxf, hxh, hbb])
        have HCH := Aside0.mk hch
        have HRB := Aside0.mk hrb
        have HX := Aside0.mk (And.intro hxc (And.intro hxf hxh))
        clear hch hrb hxc hxf hxh hbb n1 n2 n3 n4 n5 n6 hl
        go_wp2_with fail
        refine HCH.out.mono ?_
        rintro en w5 ⟨rfl, hb⟩
        have HH5 := Aside0.mk (HH.out.mono hb)
        have HO5 := Aside0.mk (HOP.out.mono hb)
        clear hb HH HOP HCH
        have hrc := rchanges_calls HO5.out HHD.out.1 HHD.out.2
        rw [HX.out.1, HX.out.2.1, HX.out.2.2] at hrc
        have HRC := Aside0.mk hrc
        clear hrc
        go_wp2_with fail
        refine HRC.out.mono ?_
        rintro en w6 ⟨rfl, hb⟩
        have HH6 := Aside0.mk (HH5.out.mono hb)
        have HO6 := Aside0.mk (HO5.out.mono hb)
        clear hb HH5 HO5 HRC
        obtain ⟨k0, k1, k2, k3, k4, k5, k6, k7⟩ := HH6.out.cfg.cells
        go_wp2_with fail
        refine (HRB.out _).mono ?_
        rintro en w7 ⟨rfl, hb⟩
        have HH7 := Aside0.mk (HH6.out.mono hb)
        have HO7 := Aside0.mk (HO6.out.mono hb)
        clear hb HH6 HO6 HRB k0 k1 k2 k3 k4 k5 k6 k7
        obtain ⟨p1, p2, _⟩ := k_bd HHD.out.1 HHD.out.2 1
        obtain ⟨d1, d2, _⟩ := k_bd HHD.out.1 HHD.out.2 2
        obtain ⟨e1, e2, _⟩ := k_is HHD.out.1 1
        obtain ⟨e3, e4, _⟩ := k_is HHD.out.1 2
        rw [e1] at p1
        rw [e2] at p2
        rw [e3] at d1
        rw [e4] at d2
        have hco : mCost h = sumR h 1 + sumW h 1 + sumR h 2 + sumW h 2 := by unfold mCost; rw [e1, e2, e3, e4]
        obtain ⟨pr, hpr⟩ : ∃ x, sumR h 1 = x := ⟨_, rfl⟩
        obtain ⟨pw, hpw⟩ : ∃ x, sumW h 1 = x := ⟨_, rfl⟩
        obtain ⟨dr, hdr⟩ : ∃ x, sumR h 2 = x := ⟨_, rfl⟩
        obtain ⟨dw, hdw⟩ : ∃ x, sumW h 2 = x := ⟨_, rfl⟩
        have hs1 := rsum_calls HO7.out HHD.out.1 HHD.out.2 1
        rw [hpr, hpw] at hs1
        rw [hpr, hpw, hdr, hdw] at hco
        rw [hpr] at p1
        rw [hpw] at p2
        rw [hdr] at d1
        rw [hdw] at d2
        have HS := Aside0.mk (show 0 ≤ pr ∧ pr ≤ 1152921504606846976 ∧ 0 ≤ pw ∧ pw ≤ 1152921504606846976 ∧ 0 ≤ dr ∧ dr ≤ 1152921504606846976 ∧ 0 ≤ dw ∧ dw ≤ 1152921504606846976 from ⟨p1.1, p1.2, p2.1, p2.2, d1.1, d1.2, d2.1, d2.2⟩)
        have HCO := Aside0.mk hco
        have HD := Aside0.mk (And.intro hdr hdw)
        have HS1 := Aside0.mk hs1
        clear p1 p2 d1 d2 e1 e2 e3 e4 hco hpr hpw hdr hdw hs1
        go_wp2_with fail
        refine HS1.out.mono ?_
        rintro en w8 ⟨rfl, hb⟩
        have HH8 := Aside0.mk (HH7.out.mono hb)
        have HO8 := Aside0.mk (HO7.out.mono hb)
        clear hb HH7 HO7 HS1
        have hs2 := rsum_calls HO8.out HHD.out.1 HHD.out.2 2
        rw [HD.out.1, HD.out.2] at hs2
        have HS2 := Aside0.mk hs2
        clear hs2
        go_wp2_with fail
        refine HS2.out.mono ?_
        rintro en w2 ⟨rfl, hb⟩
        have HH9 := Aside0.mk (HH8.out.mono hb)
        have HO9 := Aside0.mk (HO8.out.mono hb)
        clear hb HH8 HO8 HS2
        go_wp2_with fail
        have hz := blk_new w2 (.cells #[.int .u64 pr, .int .u64 pw] 35)
        have hz3 := Aside0.mk (blk_below hz (below_alloc (Below.refl _ _) (.cells #[.int .u64 dr, .int .u64 dw] 35)))
        have hz4 := blk_new (w2.alloc (.cells #[.int .u64 pr, .int .u64 pw] 35)) (.cells #[.int .u64 dr, .int .u64 dw] 35)
        rw [show (w2.alloc (.cells #[.int .u64 pr, .int .u64 pw] 35)).heap.size = w2.heap.size + 1 from Array.size_push _] at hz4
        have H3 := hz3
        have H4 := Aside0.mk hz4
        have hb4 := below_alloc (below_alloc (Below.refl w2.heap.size w2) (.cells #[.int .u64 pr, .int .u64 pw] 35)) (.cells #[.int .u64 dr, .int .u64 dw] 35)
        have HM := Aside0.mk (HH9.out.met.below hb4)
        have HO := Aside0.mk (HO9.out.mono hb4)
        have HB := Aside0.mk (below_step HH9.out.below hb4)
        have HH := HHD
        clear hz hz3 hz4 hb4 HH9 HO9
        generalize (w2.alloc (.cells #[.int .u64 pr, .int .u64 pw] 35)).alloc (.cells #[.int .u64 dr, .int .u64 dw] 35) = w4 at H3 H4 HM HO HB ⊢
        generalize w2.heap.size + 1 = S4 at H4 ⊢
        generalize w2.heap.size = S3 at H3 ⊢
        have HBM := Aside0.mk (fun w5 (hb : Below w4.heap.size w4 w5) => (show Calls Try.prog 12 #[.pointer (some ⟨g, 0, none⟩)] w5 fun e w' => e = .returned (.int .u64 bb) ∧ Below w5.heap.size w5 w' from by
          have := bound_any (HM.out.below hb)
          rwa [HBB.out] at this))
        have HWM := Aside0.mk (fun w5 (hb : Below w4.heap.size w4 w5) => (show Calls Try.prog 20 #[.pointer (some ⟨g, 0, none⟩)] w5 fun e w' => e = .returned (.bool (decide (pr + pw + dr + dw ≤ bb))) ∧ Below w5.heap.size w5 w' from by
          have := within_any (HM.out.below hb)
          rwa [HBB.out, HCO.out] at this))
        refine Reg.region_list [Reg.Is (.int .i64 (xc)), Reg.Is (.int .i64 (xc)), Reg.Is (.bool false), Reg.Is (.bool false), Reg.Is (.int .i64 (xf)), Reg.Is (.int .i64 (xf)), Reg.Is (.bool false), Reg.Is (.bool false), Reg.Is (.bool false), Reg.Is (.int .i64 (xh)), Reg.Is (.int .i64 (xh)), Reg.Is (.bool false), Reg.Is (.bool false), Reg.Is (.bool false), Reg.Is (.pointer (some ⟨g, 0, none⟩)), Reg.Is (.int .u64 (bb)), Reg.Is (.int .u64 (bb)), Reg.Is (.bool false), Reg.Is (.bool false), Reg.Is (.bool false), Reg.Is (.pointer (some ⟨g, 0, none⟩)), Reg.Is (.bool (decide (pr + pw + dr + dw ≤ bb))), Reg.Is (.pointer (some ⟨S3, 0, none⟩)), Reg.Is (.int .u64 (pr)), Reg.Is (.pointer (some ⟨S3, 1, none⟩)), Reg.Is (.int .u64 (pw)), Reg.Is (.int .u64 (pr + pw)), Reg.Is (.pointer (some ⟨S4, 0, none⟩)), Reg.Is (.int .u64 (dr)), Reg.Is (.int .u64 (pr + pw + dr)), Reg.Is (.pointer (some ⟨S4, 1, none⟩)), Reg.Is (.int .u64 (dw)), Reg.Is (.int .u64 (pr + pw + dr + dw)), Reg.Is (.int .u64 (bb)), Reg.Is (.bool (decide (pr + pw + dr + dw ≤ bb))), Reg.Is (.bool false), Reg.Is (.bool false)]
            [some 110, some 111, some 112, some 113, some 114, some 115, some 116, some 117, some 118, some 119, some 120, some 121, some 122, some 123, some 124, some 125, some 126, some 127, some 128, some 129, some 130, some 131, some 132, some 133, some 134, some 135, some 136, some 137, some 138, some 139, some 140, some 141, some 142, some 143, some 144, some 145, some 146] (by kernel_rfl) (by rfl) (by rfl) (by rfl) rfl ⟨Reg.mono_is _, Reg.mono_is _, Reg.mono_is _, Reg.mono_is _, Reg.mono_is _, Reg.mono_is _, Reg.mono_is _, Reg.mono_is _, Reg.mono_is _, Reg.mono_is _, Reg.mono_is _, Reg.mono_is _, Reg.mono_is _, Reg.mono_is _, Reg.mono_is _, Reg.mono_is _, Reg.mono_is _, Reg.mono_is _, Reg.mono_is _, Reg.mono_is _, Reg.mono_is _, Reg.mono_is _, Reg.mono_is _, Reg.mono_is _, Reg.mono_is _, Reg.mono_is _, Reg.mono_is _, Reg.mono_is _, Reg.mono_is _, Reg.mono_is _, Reg.mono_is _, Reg.mono_is _, Reg.mono_is _, Reg.mono_is _, Reg.mono_is _, Reg.mono_is _, Reg.mono_is _, trivial⟩ (Reg.noneOk_of (by rfl)) ⟨?_, ?_, ?_, ?_, ?_, ?_, ?_, ?_, ?_, ?_, ?_, ?_, ?_, ?_, ?_, ?_, ?_, ?_, ?_, ?_, ?_, ?_, ?_, ?_, ?_, ?_, ?_, ?_, ?_, ?_, ?_, ?_, ?_, ?_, ?_, ?_, ?_, trivial⟩ ?_
        · intro a w hl   -- 0: slot 110
          have q13 : a.eval (.tmp 13) = .int .i64 (xc) := hl.out 13 rfl
          have qc : ∀ x, a.eval (.const x) = x := fun _ => rfl
          refine Reg.does_is (x := .int .i64 (xc)) rfl rfl ?_
          clear hl
          generalize a.eval = ρ at *
          go_simp
        · intro a w hl   -- 1: slot 111
          have q16 : a.eval (.tmp 16) = .int .i64 (xc) := hl.out 16 rfl
          have qc : ∀ x, a.eval (.const x) = x := fun _ => rfl
          refine Reg.does_is (x := .int .i64 (xc)) rfl rfl ?_
          clear hl
          generalize a.eval = ρ at *
          go_simp
        · intro a w hl   -- 2: slot 112
          have q110 : a.eval (.tmp 110) = .int .i64 (xc) := hl.has 0 rfl
          have q111 : a.eval (.tmp 111) = .int .i64 (xc) := hl.has 1 rfl
          have qc : ∀ x, a.eval (.const x) = x := fun _ => rfl
          refine Reg.does_is (x := .bool false) rfl rfl ?_
          clear hl
          generalize a.eval = ρ at *
          go_simp
        · intro a w hl   -- 3: slot 113
          have q112 : a.eval (.tmp 112) = .bool false := hl.has 2 rfl
          have qc : ∀ x, a.eval (.const x) = x := fun _ => rfl
          refine Reg.does_is (x := .bool false) rfl rfl ?_
          clear hl
          generalize a.eval = ρ at *
          go_simp
        · intro a w hl   -- 4: slot 114
          have q14 : a.eval (.tmp 14) = .int .i64 (xf) := hl.out 14 rfl
          have q113 : a.eval (.tmp 113) = .bool false := hl.has 3 rfl
          have qc : ∀ x, a.eval (.const x) = x := fun _ => rfl
          refine Reg.does_is (x := .int .i64 (xf)) rfl (Reg.wanted_of rfl rfl (hl.yields 3 rfl rfl q113)) ?_
          clear hl
          generalize a.eval = ρ at *
          go_simp
        · intro a w hl   -- 5: slot 115
          have q17 : a.eval (.tmp 17) = .int .i64 (xf) := hl.out 17 rfl
          have q113 : a.eval (.tmp 113) = .bool false := hl.has 3 rfl
          have qc : ∀ x, a.eval (.const x) = x := fun _ => rfl
          refine Reg.does_is (x := .int .i64 (xf)) rfl (Reg.wanted_of rfl rfl (hl.yields 3 rfl rfl q113)) ?_
          clear hl
          generalize a.eval = ρ at *
          go_simp
        · intro a w hl   -- 6: slot 116
          have q114 : a.eval (.tmp 114) = .int .i64 (xf) := hl.has 4 rfl
          have q115 : a.eval (.tmp 115) = .int .i64 (xf) := hl.has 5 rfl
          have q113 : a.eval (.tmp 113) = .bool false := hl.has 3 rfl
          have qc : ∀ x, a.eval (.const x) = x := fun _ => rfl
          refine Reg.does_is (x := .bool false) rfl (Reg.wanted_of rfl rfl (hl.yields 3 rfl rfl q113)) ?_
          clear hl
          generalize a.eval = ρ at *
          go_simp
        · intro a w hl   -- 7: slot 117
          have q113 : a.eval (.tmp 113) = .bool false := hl.has 3 rfl
          have q116 : a.eval (.tmp 116) = .bool false := hl.has 6 rfl
          have qc : ∀ x, a.eval (.const x) = x := fun _ => rfl
          refine Reg.does_is (x := .bool false) rfl rfl ?_
          clear hl
          generalize a.eval = ρ at *
          go_simp
        · intro a w hl   -- 8: slot 118
          have q117 : a.eval (.tmp 117) = .bool false := hl.has 7 rfl
          have qc : ∀ x, a.eval (.const x) = x := fun _ => rfl
          refine Reg.does_is (x := .bool false) rfl rfl ?_
          clear hl
          generalize a.eval = ρ at *
          go_simp
        · intro a w hl   -- 9: slot 119
          have q15 : a.eval (.tmp 15) = .int .i64 (xh) := hl.out 15 rfl
          have q118 : a.eval (.tmp 118) = .bool false := hl.has 8 rfl
          have qc : ∀ x, a.eval (.const x) = x := fun _ => rfl
          refine Reg.does_is (x := .int .i64 (xh)) rfl (Reg.wanted_of rfl rfl (hl.yields 8 rfl rfl q118)) ?_
          clear hl
          generalize a.eval = ρ at *
          go_simp
        · intro a w hl   -- 10: slot 120
          have q18 : a.eval (.tmp 18) = .int .i64 (xh) := hl.out 18 rfl
          have q118 : a.eval (.tmp 118) = .bool false := hl.has 8 rfl
          have qc : ∀ x, a.eval (.const x) = x := fun _ => rfl
          refine Reg.does_is (x := .int .i64 (xh)) rfl (Reg.wanted_of rfl rfl (hl.yields 8 rfl rfl q118)) ?_
          clear hl
          generalize a.eval = ρ at *
          go_simp
        · intro a w hl   -- 11: slot 121
          have q119 : a.eval (.tmp 119) = .int .i64 (xh) := hl.has 9 rfl
          have q120 : a.eval (.tmp 120) = .int .i64 (xh) := hl.has 10 rfl
          have q118 : a.eval (.tmp 118) = .bool false := hl.has 8 rfl
          have qc : ∀ x, a.eval (.const x) = x := fun _ => rfl
          refine Reg.does_is (x := .bool false) rfl (Reg.wanted_of rfl rfl (hl.yields 8 rfl rfl q118)) ?_
          clear hl
          generalize a.eval = ρ at *
          go_simp
        · intro a w hl   -- 12: slot 122
          have q118 : a.eval (.tmp 118) = .bool false := hl.has 8 rfl
          have q121 : a.eval (.tmp 121) = .bool false := hl.has 11 rfl
          have qc : ∀ x, a.eval (.const x) = x := fun _ => rfl
          refine Reg.does_is (x := .bool false) rfl rfl ?_
          clear hl
          generalize a.eval = ρ at *
          go_simp
        · intro a w hl   -- 13: slot 123
          have q122 : a.eval (.tmp 122) = .bool false := hl.has 12 rfl
          have qc : ∀ x, a.eval (.const x) = x := fun _ => rfl
          refine Reg.does_is (x := .bool false) rfl rfl ?_
          clear hl
          generalize a.eval = ρ at *
          go_simp
        · intro a w hl   -- 14: slot 124
          have q7 : a.eval (.tmp 7) = .pointer (some ⟨g, 0, none⟩) := hl.out 7 rfl
          have q123 : a.eval (.tmp 123) = .bool false := hl.has 13 rfl
          have qc : ∀ x, a.eval (.const x) = x := fun _ => rfl
          refine Reg.does_is (x := .pointer (some ⟨g, 0, none⟩)) rfl (Reg.wanted_of rfl rfl (hl.yields 13 rfl rfl q123)) ?_
          clear hl
          generalize a.eval = ρ at *
          go_simp
        · intro a w hl   -- 15: slot 125
          have q124 : a.eval (.tmp 124) = .pointer (some ⟨g, 0, none⟩) := hl.has 14 rfl
          have q123 : a.eval (.tmp 123) = .bool false := hl.has 13 rfl
          have qc : ∀ x, a.eval (.const x) = x := fun _ => rfl
          refine Reg.does_call_is (x := .int .u64 (bb)) #[.pointer (some ⟨g, 0, none⟩)] rfl (Reg.wanted_of rfl rfl (hl.yields 13 rfl rfl q123)) Try.func12 (by kernel_rfl) rfl rfl (by simp [qc, q124]) ?_
          exact HBM.out w hl.below
        · intro a w hl   -- 16: slot 126
          have q19 : a.eval (.tmp 19) = .int .u64 (bb) := hl.out 19 rfl
          have q123 : a.eval (.tmp 123) = .bool false := hl.has 13 rfl
          have qc : ∀ x, a.eval (.const x) = x := fun _ => rfl
          refine Reg.does_is (x := .int .u64 (bb)) rfl (Reg.wanted_of rfl rfl (hl.yields 13 rfl rfl q123)) ?_
          clear hl
          generalize a.eval = ρ at *
          go_simp
        · intro a w hl   -- 17: slot 127
          have q125 : a.eval (.tmp 125) = .int .u64 (bb) := hl.has 15 rfl
          have q126 : a.eval (.tmp 126) = .int .u64 (bb) := hl.has 16 rfl
          have q123 : a.eval (.tmp 123) = .bool false := hl.has 13 rfl
          have qc : ∀ x, a.eval (.const x) = x := fun _ => rfl
          refine Reg.does_is (x := .bool false) rfl (Reg.wanted_of rfl rfl (hl.yields 13 rfl rfl q123)) ?_
          clear hl
          generalize a.eval = ρ at *
          go_simp
        · intro a w hl   -- 18: slot 128
          have q123 : a.eval (.tmp 123) = .bool false := hl.has 13 rfl
          have q127 : a.eval (.tmp 127) = .bool false := hl.has 17 rfl
          have qc : ∀ x, a.eval (.const x) = x := fun _ => rfl
          refine Reg.does_is (x := .bool false) rfl rfl ?_
          clear hl
          generalize a.eval = ρ at *
          go_simp
        · intro a w hl   -- 19: slot 129
          have q128 : a.eval (.tmp 128) = .bool false := hl.has 18 rfl
          have qc : ∀ x, a.eval (.const x) = x := fun _ => rfl
          refine Reg.does_is (x := .bool false) rfl rfl ?_
          clear hl
          generalize a.eval = ρ at *
          go_simp
        · intro a w hl   -- 20: slot 130
          have q7 : a.eval (.tmp 7) = .pointer (some ⟨g, 0, none⟩) := hl.out 7 rfl
          have q129 : a.eval (.tmp 129) = .bool false := hl.has 19 rfl
          have qc : ∀ x, a.eval (.const x) = x := fun _ => rfl
          refine Reg.does_is (x := .pointer (some ⟨g, 0, none⟩)) rfl (Reg.wanted_of rfl rfl (hl.yields 19 rfl rfl q129)) ?_
          clear hl
          generalize a.eval = ρ at *
          go_simp
        · intro a w hl   -- 21: slot 131
          have q130 : a.eval (.tmp 130) = .pointer (some ⟨g, 0, none⟩) := hl.has 20 rfl
          have q129 : a.eval (.tmp 129) = .bool false := hl.has 19 rfl
          have qc : ∀ x, a.eval (.const x) = x := fun _ => rfl
          refine Reg.does_call_is (x := .bool (decide (pr + pw + dr + dw ≤ bb))) #[.pointer (some ⟨g, 0, none⟩)] rfl (Reg.wanted_of rfl rfl (hl.yields 19 rfl rfl q129)) Try.func20 (by kernel_rfl) rfl rfl (by simp [qc, q130]) ?_
          exact HWM.out w hl.below
        · intro a w hl   -- 22: slot 132
          have q20 : a.eval (.tmp 20) = .pointer (some ⟨S3, 0, none⟩) := hl.out 20 rfl
          have q129 : a.eval (.tmp 129) = .bool false := hl.has 19 rfl
          have qc : ∀ x, a.eval (.const x) = x := fun _ => rfl
          refine Reg.does_is (x := .pointer (some ⟨S3, 0, none⟩)) rfl (Reg.wanted_of rfl rfl (hl.yields 19 rfl rfl q129)) ?_
          clear hl
          generalize a.eval = ρ at *
          go_simp
        · intro a w hl   -- 23: slot 133
          have q132 : a.eval (.tmp 132) = .pointer (some ⟨S3, 0, none⟩) := hl.has 22 rfl
          have q129 : a.eval (.tmp 129) = .bool false := hl.has 19 rfl
          have qc : ∀ x, a.eval (.const x) = x := fun _ => rfl
          refine Reg.does_is (x := .int .u64 (pr)) rfl (Reg.wanted_of rfl rfl (hl.yields 19 rfl rfl q129)) ?_
          have hst := blk_below H3.out hl.below
          have k0 := (blk_cell hst 0).trans rfl
          have k1 := (blk_cell hst 1).trans rfl
          clear hl hst
          generalize a.eval = ρ at *
          go_simp
        · intro a w hl   -- 24: slot 134
          have q20 : a.eval (.tmp 20) = .pointer (some ⟨S3, 0, none⟩) := hl.out 20 rfl
          have q129 : a.eval (.tmp 129) = .bool false := hl.has 19 rfl
          have qc : ∀ x, a.eval (.const x) = x := fun _ => rfl
          refine Reg.does_is (x := .pointer (some ⟨S3, 1, none⟩)) rfl (Reg.wanted_of rfl rfl (hl.yields 19 rfl rfl q129)) ?_
          clear hl
          generalize a.eval = ρ at *
          go_simp
        · intro a w hl   -- 25: slot 135
          have q134 : a.eval (.tmp 134) = .pointer (some ⟨S3, 1, none⟩) := hl.has 24 rfl
          have q129 : a.eval (.tmp 129) = .bool false := hl.has 19 rfl
          have qc : ∀ x, a.eval (.const x) = x := fun _ => rfl
          refine Reg.does_is (x := .int .u64 (pw)) rfl (Reg.wanted_of rfl rfl (hl.yields 19 rfl rfl q129)) ?_
          have hst := blk_below H3.out hl.below
          have k0 := (blk_cell hst 0).trans rfl
          have k1 := (blk_cell hst 1).trans rfl
          clear hl hst
          generalize a.eval = ρ at *
          go_simp
        · intro a w hl   -- 26: slot 136
          have q133 : a.eval (.tmp 133) = .int .u64 (pr) := hl.has 23 rfl
          have q135 : a.eval (.tmp 135) = .int .u64 (pw) := hl.has 25 rfl
          have q129 : a.eval (.tmp 129) = .bool false := hl.has 19 rfl
          have qc : ∀ x, a.eval (.const x) = x := fun _ => rfl
          refine Reg.does_is (x := .int .u64 (pr + pw)) rfl (Reg.wanted_of rfl rfl (hl.yields 19 rfl rfl q129)) ?_
          clear hl
          generalize a.eval = ρ at *
          obtain ⟨s1, s2, s3, s4, s5, s6, s7, s8⟩ := HS.out
          go_simp
          exact u64w (by omega) (by omega)
        · intro a w hl   -- 27: slot 137
          have q21 : a.eval (.tmp 21) = .pointer (some ⟨S4, 0, none⟩) := hl.out 21 rfl
          have q129 : a.eval (.tmp 129) = .bool false := hl.has 19 rfl
          have qc : ∀ x, a.eval (.const x) = x := fun _ => rfl
          refine Reg.does_is (x := .pointer (some ⟨S4, 0, none⟩)) rfl (Reg.wanted_of rfl rfl (hl.yields 19 rfl rfl q129)) ?_
          clear hl
          generalize a.eval = ρ at *
          go_simp
        · intro a w hl   -- 28: slot 138
          have q137 : a.eval (.tmp 137) = .pointer (some ⟨S4, 0, none⟩) := hl.has 27 rfl
          have q129 : a.eval (.tmp 129) = .bool false := hl.has 19 rfl
          have qc : ∀ x, a.eval (.const x) = x := fun _ => rfl
          refine Reg.does_is (x := .int .u64 (dr)) rfl (Reg.wanted_of rfl rfl (hl.yields 19 rfl rfl q129)) ?_
          have hst := blk_below H4.out hl.below
          have k0 := (blk_cell hst 0).trans rfl
          have k1 := (blk_cell hst 1).trans rfl
          clear hl hst
          generalize a.eval = ρ at *
          go_simp
        · intro a w hl   -- 29: slot 139
          have q136 : a.eval (.tmp 136) = .int .u64 (pr + pw) := hl.has 26 rfl
          have q138 : a.eval (.tmp 138) = .int .u64 (dr) := hl.has 28 rfl
          have q129 : a.eval (.tmp 129) = .bool false := hl.has 19 rfl
          have qc : ∀ x, a.eval (.const x) = x := fun _ => rfl
          refine Reg.does_is (x := .int .u64 (pr + pw + dr)) rfl (Reg.wanted_of rfl rfl (hl.yields 19 rfl rfl q129)) ?_
          clear hl
          generalize a.eval = ρ at *
          obtain ⟨s1, s2, s3, s4, s5, s6, s7, s8⟩ := HS.out
          go_simp
          exact u64w (by omega) (by omega)
        · intro a w hl   -- 30: slot 140
          have q21 : a.eval (.tmp 21) = .pointer (some ⟨S4, 0, none⟩) := hl.out 21 rfl
          have q129 : a.eval (.tmp 129) = .bool false := hl.has 19 rfl
          have qc : ∀ x, a.eval (.const x) = x := fun _ => rfl
          refine Reg.does_is (x := .pointer (some ⟨S4, 1, none⟩)) rfl (Reg.wanted_of rfl rfl (hl.yields 19 rfl rfl q129)) ?_
          clear hl
          generalize a.eval = ρ at *
          go_simp
        · intro a w hl   -- 31: slot 141
          have q140 : a.eval (.tmp 140) = .pointer (some ⟨S4, 1, none⟩) := hl.has 30 rfl
          have q129 : a.eval (.tmp 129) = .bool false := hl.has 19 rfl
          have qc : ∀ x, a.eval (.const x) = x := fun _ => rfl
          refine Reg.does_is (x := .int .u64 (dw)) rfl (Reg.wanted_of rfl rfl (hl.yields 19 rfl rfl q129)) ?_
          have hst := blk_below H4.out hl.below
          have k0 := (blk_cell hst 0).trans rfl
          have k1 := (blk_cell hst 1).trans rfl
          clear hl hst
          generalize a.eval = ρ at *
          go_simp
        · intro a w hl   -- 32: slot 142
          have q139 : a.eval (.tmp 139) = .int .u64 (pr + pw + dr) := hl.has 29 rfl
          have q141 : a.eval (.tmp 141) = .int .u64 (dw) := hl.has 31 rfl
          have q129 : a.eval (.tmp 129) = .bool false := hl.has 19 rfl
          have qc : ∀ x, a.eval (.const x) = x := fun _ => rfl
          refine Reg.does_is (x := .int .u64 (pr + pw + dr + dw)) rfl (Reg.wanted_of rfl rfl (hl.yields 19 rfl rfl q129)) ?_
          clear hl
          generalize a.eval = ρ at *
          obtain ⟨s1, s2, s3, s4, s5, s6, s7, s8⟩ := HS.out
          go_simp
          exact u64w (by omega) (by omega)
        · intro a w hl   -- 33: slot 143
          have q19 : a.eval (.tmp 19) = .int .u64 (bb) := hl.out 19 rfl
          have q129 : a.eval (.tmp 129) = .bool false := hl.has 19 rfl
          have qc : ∀ x, a.eval (.const x) = x := fun _ => rfl
          refine Reg.does_is (x := .int .u64 (bb)) rfl (Reg.wanted_of rfl rfl (hl.yields 19 rfl rfl q129)) ?_
          clear hl
          generalize a.eval = ρ at *
          go_simp
        · intro a w hl   -- 34: slot 144
          have q142 : a.eval (.tmp 142) = .int .u64 (pr + pw + dr + dw) := hl.has 32 rfl
          have q143 : a.eval (.tmp 143) = .int .u64 (bb) := hl.has 33 rfl
          have q129 : a.eval (.tmp 129) = .bool false := hl.has 19 rfl
          have qc : ∀ x, a.eval (.const x) = x := fun _ => rfl
          refine Reg.does_is (x := .bool (decide (pr + pw + dr + dw ≤ bb))) rfl (Reg.wanted_of rfl rfl (hl.yields 19 rfl rfl q129)) ?_
          clear hl
          generalize a.eval = ρ at *
          go_simp
        · intro a w hl   -- 35: slot 145
          have q131 : a.eval (.tmp 131) = .bool (decide (pr + pw + dr + dw ≤ bb)) := hl.has 21 rfl
          have q144 : a.eval (.tmp 144) = .bool (decide (pr + pw + dr + dw ≤ bb)) := hl.has 34 rfl
          have q129 : a.eval (.tmp 129) = .bool false := hl.has 19 rfl
          have qc : ∀ x, a.eval (.const x) = x := fun _ => rfl
          refine Reg.does_is (x := .bool false) rfl (Reg.wanted_of rfl rfl (hl.yields 19 rfl rfl q129)) ?_
          clear hl
          generalize a.eval = ρ at *
          generalize decide (pr + pw + dr + dw ≤ bb) = tb at *
          cases tb <;> go_simp
        · intro a w hl   -- 36: slot 146
          have q129 : a.eval (.tmp 129) = .bool false := hl.has 19 rfl
          have q145 : a.eval (.tmp 145) = .bool false := hl.has 35 rfl
          have qc : ∀ x, a.eval (.const x) = x := fun _ => rfl
          refine Reg.does_is (x := .bool false) rfl rfl ?_
          clear hl
          generalize a.eval = ρ at *
          go_simp
        · rintro v w hb ⟨e110, e111, e112, e113, e114, e115, e116, e117, e118, e119, e120, e121, e122, e123, e124, e125, e126, e127, e128, e129, e130, e131, e132, e133, e134, e135, e136, e137, e138, e139, e140, e141, e142, e143, e144, e145, e146, _⟩
          replace e110 : v 0 = .int .i64 (xc) := e110
          replace e111 : v 1 = .int .i64 (xc) := e111
          replace e112 : v 2 = .bool false := e112
          replace e113 : v 3 = .bool false := e113
          replace e114 : v 4 = .int .i64 (xf) := e114
          replace e115 : v 5 = .int .i64 (xf) := e115
          replace e116 : v 6 = .bool false := e116
          replace e117 : v 7 = .bool false := e117
          replace e118 : v 8 = .bool false := e118
          replace e119 : v 9 = .int .i64 (xh) := e119
          replace e120 : v 10 = .int .i64 (xh) := e120
          replace e121 : v 11 = .bool false := e121
          replace e122 : v 12 = .bool false := e122
          replace e123 : v 13 = .bool false := e123
          replace e124 : v 14 = .pointer (some ⟨g, 0, none⟩) := e124
          replace e125 : v 15 = .int .u64 (bb) := e125
          replace e126 : v 16 = .int .u64 (bb) := e126
          replace e127 : v 17 = .bool false := e127
          replace e128 : v 18 = .bool false := e128
          replace e129 : v 19 = .bool false := e129
          replace e130 : v 20 = .pointer (some ⟨g, 0, none⟩) := e130
          replace e131 : v 21 = .bool (decide (pr + pw + dr + dw ≤ bb)) := e131
          replace e132 : v 22 = .pointer (some ⟨S3, 0, none⟩) := e132
          replace e133 : v 23 = .int .u64 (pr) := e133
          replace e134 : v 24 = .pointer (some ⟨S3, 1, none⟩) := e134
          replace e135 : v 25 = .int .u64 (pw) := e135
          replace e136 : v 26 = .int .u64 (pr + pw) := e136
          replace e137 : v 27 = .pointer (some ⟨S4, 0, none⟩) := e137
          replace e138 : v 28 = .int .u64 (dr) := e138
          replace e139 : v 29 = .int .u64 (pr + pw + dr) := e139
          replace e140 : v 30 = .pointer (some ⟨S4, 1, none⟩) := e140
          replace e141 : v 31 = .int .u64 (dw) := e141
          replace e142 : v 32 = .int .u64 (pr + pw + dr + dw) := e142
          replace e143 : v 33 = .int .u64 (bb) := e143
          replace e144 : v 34 = .bool (decide (pr + pw + dr + dw ≤ bb)) := e144
          replace e145 : v 35 = .bool false := e145
          replace e146 : v 36 = .bool false := e146
          simp only [Reg.putL, Act.put, List.setIfInBounds_toArray, List.set_cons_zero, List.set_cons_succ, e110, e111, e112, e113, e114, e115, e116, e117, e118, e119, e120, e121, e122, e123, e124, e125, e126, e127, e128, e129, e130, e131, e132, e133, e134, e135, e136, e137, e138, e139, e140, e141, e142, e143, e144, e145, e146]
          clear e110 e111 e112 e113 e114 e115 e116 e117 e118 e119 e120 e121 e122 e123 e124 e125 e126 e127 e128 e129 e130 e131 e132 e133 e134 e135 e136 e137 e138 e139 e140 e141 e142 e143 e144 e145 e146
          have HB9 := Aside0.mk (below_step HB.out hb)
          have HM9 := Aside0.mk (HM.out.below hb)
          have HO9 := Aside0.mk (HO.out.mono hb)
          clear hb
          have hq := fun d W => eqA35 d W (sumR h ask) (sumR h ask) (sumW h ask) (sumW h ask)
          have hsm := sum_any HM9.out ask
          obtain ⟨e1, e2, e3⟩ := k_is HH.out.1 ask
          rw [e1, e2] at hsm
          have HSM := Aside0.mk hsm
          clear hsm e1 e2 e3
          go_wp2_with fail
          refine HSM.out.mono ?_
          rintro en w10 ⟨rfl, hb⟩
          have HB10 := Aside0.mk (below_step HB9.out hb)
          have HM10 := Aside0.mk (HM9.out.below hb)
          have HO10 := Aside0.mk (HO9.out.mono hb)
          clear hb HB9 HM9 HO9
          go_wp2_with fail
          refine (rsum_calls HO10.out HH.out.1 HH.out.2 ask).mono ?_
          rintro en w11 ⟨rfl, hb⟩
          have HB11 := Aside0.mk (below_step HB10.out hb)
          have HM11 := Aside0.mk (HM10.out.below hb)
          have HO11 := Aside0.mk (HO10.out.mono hb)
          clear hb HB10 HM10 HO10
          have hmo := most_any HM11.out ask
          rw [(k_is HH.out.1 ask).2.2] at hmo
          have HMO := Aside0.mk hmo
          clear hmo
          go_wp2_with fail
          refine HMO.out.mono ?_
          rintro en w12 ⟨rfl, hb⟩
          have HB12 := Aside0.mk (below_step HB11.out hb)
          have HO12 := Aside0.mk (HO11.out.mono hb)
          clear hb HB11 HM11 HO11
          go_wp2_with fail
          refine (rmost_calls HO12.out HH.out.1 HH.out.2 ask).mono ?_
          rintro en w13 ⟨rfl, hb⟩
          have HB13 := Aside0.mk (below_step HB12.out hb)
          clear hb HB12
          go_wp2_with fail
          refine (awake_calls _).mono ?_
          rintro en w14 ⟨rfl, hb⟩
          have HB14 := Aside0.mk (below_step HB13.out hb)
          clear hb HB13
          go_wp2_with fail
          go_ret
          exact ⟨by simp, HB14.out⟩
theorem hears_calls (c : Cfg) (A0 : Option Addr) (c0 : Nat) (l : List S37) (ask : Int) (w : World) (hC : Kd.C k37 w A0 l.length l) (hc : l.length ≤ c0) (hl : ∀ o ∈ l, 0 ≤ o.f3.f0 ∧ 0 ≤ o.f3.f1) :
    Calls Try.prog 5 #[c.v, .slice A0 l.length c0, .int .i64 ask] w fun e w' => e = .returned (.bool true) ∧ Below w.heap.size w w' := by
  by_cases hr : c.right
  · exact hears_right c hr A0 c0 l ask w hC hc hl
  · exact hears_wrong c hr _ ask w
end Go.Proofs.Ytkpdcacfokcpnaa.Q
