/- MeterGrows: what the law's call comes to. -/
import Derived.Test.YtkpdcacfokcpnaaMeterHears
import Derived.Test.YtkpdcacfokcpnaaMeterMore
import Derived.Test.YtkpdcacfokcpnaaRegS
namespace Go.Proofs.Ytkpdcacfokcpnaa.Q
open Go.RowKit Go.Proofs.YtkpdcacfokcpnaaW.PrintWords Go.Proofs.YtkpdcacfokcpnaaW.PrintLast Go.Proofs.YtkpdcacfokcpnaaW.PrintMore
open Go.Proofs.Ytkpdcacfokcpnaa Go.Proofs.Ytkpdcacfokcpnaa.Vals
set_option linter.unusedVariables false
set_option linter.unusedSimpArgs false

theorem put2 {w : World} {S : Nat} {t : TypeId} {x0 x1 : Value} (H : w.heap[S]? = some (.cells #[x0, x1] t (0, 0))) (y0 y1 : Value) :
    ((w.setCell ⟨S, 0, none⟩ y0).setCell ⟨S, 1, none⟩ y1).heap[S]? = some (.cells #[y0, y1] t (0, 0)) ∧ Keeps (fun k => k = S) w ((w.setCell ⟨S, 0, none⟩ y0).setCell ⟨S, 1, none⟩ y1) :=
  ⟨blk_put (blk_put H 0 _ rfl) 1 _ rfl, ((Keeps.refl (fun k => k = S) w).set (p := ⟨S, 0, none⟩) (Or.inl rfl) _).set (p := ⟨S, 1, none⟩) (Or.inl rfl) _⟩

/-- No less than ahead. -/
structure More (c : Cfg) (h h2 : List S37) : Prop where
  bd : mBnd c h ≤ mBnd c h2
  k : ∀ q, kR h q ≤ kR h2 q ∧ kW h q ≤ kW h2 q ∧ kM h q ≤ kM h2 q
  len : h2.length ≤ h.length + 1
def HearPost (w : World) (g : Nat) (c : Cfg) (h : List S37) (e : Ending) (w' : World) : Prop := ∃ (z : Int) (h2 : List S37), e = .returned (.int .i64 z) ∧ Met w' g c h2 ∧ Keeps (fun k => k = g) w w' ∧ More c h h2
theorem hear_more {w : World} {g : Nat} {c : Cfg} {l : List S37} (hr : c.right) (h : Met w g c l) (o : S37) (h0 : 0 ≤ o.f3.f0) (h1 : 0 ≤ o.f3.f1) (hl : l.length < 1048576) :
    Calls Try.prog 15 #[.pointer (some ⟨g, 0, none⟩), .int .i64 o.f0, .bool o.f1, .int .i64 o.f2, .agg #[.int .u64 o.f3.f0, .int .u64 o.f3.f1]] w (HearPost w g c l) := by
  by_cases hm : May o
  · refine (hear_ok h o hm h0 h1 hl).mono ?_
    rintro e w' ⟨rfl, h2, hk⟩
    have hh := h2.heard
    exact ⟨0, _, rfl, h2, hk, mbnd_more hr hh hl, k_more hh, by simp⟩
  · refine (hear_bad h o hm).mono ?_
    rintro e w' ⟨rfl, hb⟩
    exact ⟨2, l, rfl, h.below hb, Keeps.of_below hb _, Int.le_refl _, fun q => ⟨Int.le_refl _, Int.le_refl _, Int.le_refl _⟩, by omega⟩

set_option maxRecDepth 100000 in
theorem grows_wrong (c : Cfg) (hr : ¬ c.right) (v : Value) (w : World) : Calls Try.prog 4 #[c.v, v] w fun e w' => e = .returned (.bool true) ∧ Below w.heap.size w w' := by
  have HZ := Aside0.mk (show CfgAt (w.alloc (.cells #[.int .i64 c.blocks, .int .i64 c.bytes, .int .i64 c.frames, .int .i64 c.fan, .int .i64 c.buf, .int .i64 c.leaf, .int .i64 c.key, .int .i64 c.val] 23)) w.heap.size c from ⟨blk_new w _⟩)
  have HB := Aside0.mk (below_alloc (Below.refl w.heap.size w) (.cells #[.int .i64 c.blocks, .int .i64 c.bytes, .int .i64 c.frames, .int .i64 c.fan, .int .i64 c.buf, .int .i64 c.leaf, .int .i64 c.key, .int .i64 c.val] 23))
  have hrr := fun w => rright_calls c w
  rw [decide_eq_false hr] at hrr
  have HRR := Aside0.mk hrr
  have HNW := Aside0.mk (fun w => new_wrong c hr w)
  clear hrr hr
  go_enter Try.func4, Try.ntmps4
  go_wp2_with fail
  refine (HNW.out _).mono ?_
  rintro en w1 ⟨rfl, hb⟩
  have HZ1 := Aside0.mk (HZ.out.below hb)
  have HB1 := Aside0.mk (below_step HB.out hb)
  clear hb
  obtain ⟨k0, k1, k2, k3, k4, k5, k6, k7⟩ := HZ1.out.cells
  go_wp2_with fail
  refine (HRR.out _).mono ?_
  rintro en w2 ⟨rfl, hb⟩
  have HB2 := Aside0.mk (below_step HB1.out hb)
  clear hb k0 k1 k2 k3 k4 k5 k6 k7
  go_wp2_with fail
  refine (awake_calls _).mono ?_
  rintro en w4 ⟨rfl, hb⟩
  have HB4 := Aside0.mk (below_step HB2.out hb)
  clear hb
  go_wp2_with fail
  go_ret
  exact ⟨by simp, HB4.out⟩

set_option maxHeartbeats 4000000 in
set_option maxRecDepth 100000 in
theorem grows_right (c : Cfg) (hr : c.right) (A0 : Option Addr) (c0 : Nat) (l : List S37) (w : World) (hC : Kd.C k37 w A0 l.length l) (hc : l.length ≤ c0) (hl : ∀ o ∈ l, 0 ≤ o.f3.f0 ∧ 0 ≤ o.f3.f1) :
    Calls Try.prog 4 #[c.v, .slice A0 l.length c0] w fun e w' => e = .returned (.bool true) ∧ Below w.heap.size w w' := by
  have HB := Aside0.mk (below_alloc (Below.refl w.heap.size w) (.cells #[.int .i64 c.blocks, .int .i64 c.bytes, .int .i64 c.frames, .int .i64 c.fan, .int .i64 c.buf, .int .i64 c.leaf, .int .i64 c.key, .int .i64 c.val] 23))
  have HNW := Aside0.mk (fun w => new_right c hr w)
  have HCR := Aside0.mk hr
  have HL := Aside0.mk hC
  have HWF := Aside0.mk hl
  clear hr hC hl
  go_enter Try.func4, Try.ntmps4
  go_wp2_with fail
  refine (HNW.out _).mono ?_
  rintro en w1 ⟨g, rfl, hm, hg, hb⟩
  have HB1 := Aside0.mk (below_step HB.out hb)
  have HM1 := Aside0.mk hm
  have HGG := Aside0.mk (show w.heap.size ≤ g from Nat.le_trans HB.out.size hg)
  clear hb hm hg HB HNW
  go_wp2_with fail
  go_loopg [7] 101 (fun kq v7 wx => ∃ (i : Nat) (h : List S37), v7 = .int .i64 (i : Int) ∧ Aside0 (kq = 101 - i ∧ i ≤ 100 ∧ h.length ≤ i) ∧ Aside0 (Met wx g c h) ∧ Aside0 (Below w.heap.size w wx))
  case atStart => exact ⟨0, [], rfl, ⟨rfl, by omega, by simp⟩, HM1, HB1⟩
  case round =>
    clear HM1 HB1
    obtain ⟨i, h, rfl, HI, HM, HB⟩ := hrel
    go_upto_region 5 with fail
    go_cut [37] from 30 to 93 (fun v37 wx => v37 = .bool (decide (i < l.length ∧ i < 100)) ∧ wx = wr)
    case first =>
      by_cases p1 : i < l.length
      · have g1 : decide ((i : Int) < (l.length : Int)) = true := decide_eq_true (by omega)
        by_cases p2 : i < 100
        · have g2 : decide ((i : Int) < 100) = true := decide_eq_true (by omega)
          go_wp2_with fail
          go_meet
          case rel => exact ⟨by rw [decide_eq_true (show i < l.length ∧ i < 100 from ⟨p1, p2⟩)], rfl⟩
        · have g2 : decide ((i : Int) < 100) = false := decide_eq_false (by omega)
          go_wp2_with fail
          go_meet
          case rel => exact ⟨by rw [decide_eq_false (show ¬ (i < l.length ∧ i < 100) from by omega)], rfl⟩
      · have g1 : decide ((i : Int) < (l.length : Int)) = false := decide_eq_false (by omega)
        go_wp2_with fail
        go_meet
        case rel => exact ⟨by rw [decide_eq_false (show ¬ (i < l.length ∧ i < 100) from by omega)], rfl⟩
    case rest =>
      obtain ⟨rfl, hw⟩ := hcut
      subst hw
      by_cases hgo : i < l.length ∧ i < 100
      · rw [decide_eq_true hgo]
        obtain ⟨hi, h200⟩ := hgo
        have hi' : (i : Int) < (l.length : Int) := by omega
        obtain ⟨ad, rfl, q0, q1, q2, q3, q4⟩ := op_at HL.out hi hi
        have q0 := (HB.out.cell (World.block_lt_of_cell? w _ q0)).trans q0
        have q1 := (HB.out.cell (World.block_lt_of_cell? w _ q1)).trans q1
        have q2 := (HB.out.cell (World.block_lt_of_cell? w _ q2)).trans q2
        have q3 := (HB.out.cell (World.block_lt_of_cell? w _ q3)).trans q3
        have q4 := (HB.out.cell (World.block_lt_of_cell? w _ q4)).trans q4
        have hwf := HWF.out _ (List.getElem_mem hi)
        obtain ⟨o, ho⟩ : ∃ o, l[i] = o := ⟨_, rfl⟩
        rw [ho] at q0 q1 q2 q3 q4 hwf
        have HO := Aside0.mk hwf
        clear ho hwf
        go_upto_region 8 with fail
        clear q0 q1 q2 q3 q4
        have HT := Aside0.mk (blk_new wc (.cells #[.int .i64 o.f0, .bool o.f1, .int .i64 o.f2, .int .u64 o.f3.f0, .int .u64 o.f3.f1] 37))
        have HM4 := Aside0.mk (HM.out.below (below_alloc (Below.refl _ _) (.cells #[.int .i64 o.f0, .bool o.f1, .int .i64 o.f2, .int .u64 o.f3.f0, .int .u64 o.f3.f1] 37)))
        have HB4 := Aside0.mk (below_alloc HB.out (.cells #[.int .i64 o.f0, .bool o.f1, .int .i64 o.f2, .int .u64 o.f3.f0, .int .u64 o.f3.f1] 37))
        have HTG := Aside0.mk (show wc.heap.size ≠ g ∧ w.heap.size ≤ wc.heap.size from ⟨Nat.ne_of_gt HM.out.lt, HB.out.size⟩)
        clear HM HB
        have HM := HM4
        have HB := HB4
        clear HM4 HB4
        generalize wc.alloc (.cells #[.int .i64 o.f0, .bool o.f1, .int .i64 o.f2, .int .u64 o.f3.f0, .int .u64 o.f3.f1] 37) = w4 at HT HM HB ⊢
        generalize wc.heap.size = T at HT HTG ⊢
        have HW0 := Aside0.mk (show ∀ k, w4.heap.size ≤ k → w.heap.size ≤ k from fun k h => Nat.le_trans HB.out.size h)
        refine Reg.region_store 12 10 5 [] (fun v1 v2 w w' => ∃ (k : Nat), v1 = .pointer (some ⟨k, 0, none⟩) ∧ w' = (w.setCell ⟨k, 0, none⟩ (.int .u64 (kR h o.f0))).setCell ⟨k, 1, none⟩ (.int .u64 (kW h o.f0))) [Reg.Is (.pointer (some ⟨g, 0, none⟩)), Reg.Is (.int .u64 (mBnd c h)), Reg.Is (.pointer (some ⟨g, 0, none⟩)), Reg.Is (.pointer (some ⟨T, 0, none⟩)), Reg.Is (.int .i64 o.f0), Reg.Is (.agg #[.int .u64 (kR h o.f0), .int .u64 (kW h o.f0)]), Reg.Is (.pointer (some ⟨g, 0, none⟩)), Reg.Is (.pointer (some ⟨T, 0, none⟩)), Reg.Is (.int .i64 o.f0), Reg.Is (.int .u64 (kM h o.f0)), (fun v w => ∃ k, v = .pointer (some ⟨k, 0, none⟩) ∧ w4.heap.size ≤ k ∧ w.heap[k]? = some (.cells #[.int .u64 0, .int .u64 0] 35 (0, 0))), Reg.Is (.int .u64 (mBnd c h))]
            [some 44, some 45, some 46, some 47, some 48, some 49, some 50, some 51, some 52, some 53, some 10, some 9] (by kernel_rfl) (by rfl) (by rfl) (by rfl) (by rfl) rfl (by kernel_rfl) (by kernel_rfl) (by kernel_rfl) ⟨Reg.mono_is _, Reg.mono_is _, Reg.mono_is _, Reg.mono_is _, Reg.mono_is _, Reg.mono_is _, Reg.mono_is _, Reg.mono_is _, Reg.mono_is _, Reg.mono_is _, (fun v w w' ⟨k, h1, h2, h3⟩ hb => ⟨k, h1, h2, blk_below h3 hb⟩), Reg.mono_is _, trivial⟩ (Reg.noneOkN_of (by rfl)) ⟨?_, ?_, ?_, ?_, ?_, ?_, ?_, ?_, ?_, ?_, ?_, ?_, trivial⟩ ?_ ?_ ?_
        · intro a w hl   -- 0: slot 44
          have q5 : a.eval (.tmp 5) = .pointer (some ⟨g, 0, none⟩) := hl.out 5 rfl
          have qc : ∀ x, a.eval (.const x) = x := fun _ => rfl
          refine Reg.does_is (x := .pointer (some ⟨g, 0, none⟩)) rfl rfl ?_
          clear hl
          generalize a.eval = ρ at *
          go_simp
        · intro a w hl   -- 1: slot 45
          have q44 : a.eval (.tmp 44) = .pointer (some ⟨g, 0, none⟩) := hl.has 0 rfl
          have qc : ∀ x, a.eval (.const x) = x := fun _ => rfl
          refine Reg.does_call_is (x := .int .u64 (mBnd c h)) #[.pointer (some ⟨g, 0, none⟩)] rfl rfl Try.func12 (by kernel_rfl) rfl rfl (by simp [qc, q44]) ?_
          exact bound_any (HM.out.below hl.below)
        · intro a w hl   -- 2: slot 46
          have q5 : a.eval (.tmp 5) = .pointer (some ⟨g, 0, none⟩) := hl.out 5 rfl
          have qc : ∀ x, a.eval (.const x) = x := fun _ => rfl
          refine Reg.does_is (x := .pointer (some ⟨g, 0, none⟩)) rfl rfl ?_
          clear hl
          generalize a.eval = ρ at *
          go_simp
        · intro a w hl   -- 3: slot 47
          have q8 : a.eval (.tmp 8) = .pointer (some ⟨T, 0, none⟩) := hl.out 8 rfl
          have qc : ∀ x, a.eval (.const x) = x := fun _ => rfl
          refine Reg.does_is (x := .pointer (some ⟨T, 0, none⟩)) rfl rfl ?_
          clear hl
          generalize a.eval = ρ at *
          go_simp
        · intro a w hl   -- 4: slot 48
          have q47 : a.eval (.tmp 47) = .pointer (some ⟨T, 0, none⟩) := hl.has 3 rfl
          have qc : ∀ x, a.eval (.const x) = x := fun _ => rfl
          refine Reg.does_is (x := .int .i64 o.f0) rfl rfl ?_
          have t0 := (blk_cell (blk_below HT.out hl.below) 0).trans rfl
          clear hl
          generalize a.eval = ρ at *
          go_simp
        · intro a w hl   -- 5: slot 49
          have q46 : a.eval (.tmp 46) = .pointer (some ⟨g, 0, none⟩) := hl.has 2 rfl
          have q48 : a.eval (.tmp 48) = .int .i64 o.f0 := hl.has 4 rfl
          have qc : ∀ x, a.eval (.const x) = x := fun _ => rfl
          refine Reg.does_call_is (x := .agg #[.int .u64 (kR h o.f0), .int .u64 (kW h o.f0)]) #[.pointer (some ⟨g, 0, none⟩), .int .i64 o.f0] rfl rfl Try.func13 (by kernel_rfl) rfl rfl (by simp [qc, q46, q48]) ?_
          exact sum_any (HM.out.below hl.below) o.f0
        · intro a w hl   -- 6: slot 50
          have q5 : a.eval (.tmp 5) = .pointer (some ⟨g, 0, none⟩) := hl.out 5 rfl
          have qc : ∀ x, a.eval (.const x) = x := fun _ => rfl
          refine Reg.does_is (x := .pointer (some ⟨g, 0, none⟩)) rfl rfl ?_
          clear hl
          generalize a.eval = ρ at *
          go_simp
        · intro a w hl   -- 7: slot 51
          have q8 : a.eval (.tmp 8) = .pointer (some ⟨T, 0, none⟩) := hl.out 8 rfl
          have qc : ∀ x, a.eval (.const x) = x := fun _ => rfl
          refine Reg.does_is (x := .pointer (some ⟨T, 0, none⟩)) rfl rfl ?_
          clear hl
          generalize a.eval = ρ at *
          go_simp
        · intro a w hl   -- 8: slot 52
          have q51 : a.eval (.tmp 51) = .pointer (some ⟨T, 0, none⟩) := hl.has 7 rfl
          have qc : ∀ x, a.eval (.const x) = x := fun _ => rfl
          refine Reg.does_is (x := .int .i64 o.f0) rfl rfl ?_
          have t0 := (blk_cell (blk_below HT.out hl.below) 0).trans rfl
          clear hl
          generalize a.eval = ρ at *
          go_simp
        · intro a w hl   -- 9: slot 53
          have q50 : a.eval (.tmp 50) = .pointer (some ⟨g, 0, none⟩) := hl.has 6 rfl
          have q52 : a.eval (.tmp 52) = .int .i64 o.f0 := hl.has 8 rfl
          have qc : ∀ x, a.eval (.const x) = x := fun _ => rfl
          refine Reg.does_call_is (x := .int .u64 (kM h o.f0)) #[.pointer (some ⟨g, 0, none⟩), .int .i64 o.f0] rfl rfl Try.func14 (by kernel_rfl) rfl rfl (by simp [qc, q50, q52]) ?_
          exact most_any (HM.out.below hl.below) o.f0
        · intro a w hl   -- 10: slot 10
          refine Reg.does_new (x := .pointer (some ⟨w.heap.size, 0, none⟩)) (w' := w.alloc (.cells #[.int .u64 0, .int .u64 0] 35)) rfl rfl ?_ ⟨_, rfl, hl.below.size, blk_new _ _⟩ (below_alloc (Below.refl _ _) _)
          clear hl
          generalize a.eval = ρ at *
          go_simp
        · intro a w hl   -- 11: slot 9
          have q45 : a.eval (.tmp 45) = .int .u64 (mBnd c h) := hl.has 1 rfl
          have qc : ∀ x, a.eval (.const x) = x := fun _ => rfl
          refine Reg.does_is (x := .int .u64 (mBnd c h)) rfl rfl ?_
          clear hl
          generalize a.eval = ρ at *
          go_simp
        · intro i hi   -- the free ones
          cases hi
        · intro a w hl   -- the store
          have q10 : (fun v w => ∃ k, v = .pointer (some ⟨k, 0, none⟩) ∧ w4.heap.size ≤ k ∧ w.heap[k]? = some (.cells #[.int .u64 0, .int .u64 0] 35 (0, 0))) (a.eval (.tmp 10)) w := hl.has 10 rfl
          have q49 : a.eval (.tmp 49) = .agg #[.int .u64 (kR h o.f0), .int .u64 (kW h o.f0)] := hl.has 5 rfl
          obtain ⟨k, ep, hk, hz⟩ := q10
          refine ⟨rfl, rfl, _, ?_, ⟨k, ep, rfl⟩⟩
          have z0 := (blk_cell hz 0).trans rfl
          have z1 := (blk_cell hz 1).trans rfl
          have y0 := blk_frozen hz 0
          have y1 := blk_frozen hz 1
          clear hl hz
          generalize a.eval = ρ at *
          go_simp
        · rintro v w w5 hb ⟨e44, e45, e46, e47, e48, e49, e50, e51, e52, e53, e10, e9, _⟩ hW
          replace e44 : v 0 = .pointer (some ⟨g, 0, none⟩) := e44
          replace e45 : v 1 = .int .u64 (mBnd c h) := e45
          replace e46 : v 2 = .pointer (some ⟨g, 0, none⟩) := e46
          replace e47 : v 3 = .pointer (some ⟨T, 0, none⟩) := e47
          replace e48 : v 4 = .int .i64 o.f0 := e48
          replace e49 : v 5 = .agg #[.int .u64 (kR h o.f0), .int .u64 (kW h o.f0)] := e49
          replace e50 : v 6 = .pointer (some ⟨g, 0, none⟩) := e50
          replace e51 : v 7 = .pointer (some ⟨T, 0, none⟩) := e51
          replace e52 : v 8 = .int .i64 o.f0 := e52
          replace e53 : v 9 = .int .u64 (kM h o.f0) := e53
          replace e10 : (fun v w => ∃ k, v = .pointer (some ⟨k, 0, none⟩) ∧ w4.heap.size ≤ k ∧ w.heap[k]? = some (.cells #[.int .u64 0, .int .u64 0] 35 (0, 0))) (v 10) w := e10
          replace e9 : v 11 = .int .u64 (mBnd c h) := e9
          simp only [Reg.putL, Act.put, List.setIfInBounds_toArray, List.set_cons_zero, List.set_cons_succ, e44, e45, e46, e47, e48, e49, e50, e51, e52, e53, e9]
          clear e44 e45 e46 e47 e48 e49 e50 e51 e52 e53 e9
          obtain ⟨k, v9, hww⟩ := hW
          obtain ⟨k', v9', hk, hz⟩ := e10
          rw [v9] at v9'
          cases v9'
          have HS := Aside0.mk (put2 hz (.int .u64 (kR h o.f0)) (.int .u64 (kW h o.f0)))
          rw [← hww] at HS
          have HK := Aside0.mk (And.intro (show k ≠ g by have := HM.out.lt; omega) (And.intro (show k ≠ T by have := blk_lt HT.out; omega) (HW0.out k hk)))
          have HB0 := Aside0.mk hb
          simp only [v9, List.drop_succ_cons, List.drop_zero]
          clear v9 hww hk hz hb
          have HB6 := Aside0.mk (Keeps.below_then (below_step HB.out HB0.out) (Nat.le_refl _) HS.out.2 (fun j hj => by have h1 : j = k := hj; subst h1; exact HK.out.2.2))
          have HM6 := Aside0.mk ((HM.out.below HB0.out).move (HS.out.2.block g (HM.out.below HB0.out).lt (fun h => HK.out.1 h.symm)))
          have HT6 := Aside0.mk (HS.out.2.blk (blk_below HT.out HB0.out) (fun h => HK.out.2.1 h.symm))
          have HS6 := Aside0.mk HS.out.1
          clear HS HT HM HB HB0
          have t0 := (blk_cell HT6.out 0).trans rfl
          have t1 := (blk_cell HT6.out 1).trans rfl
          have t2 := (blk_cell HT6.out 2).trans rfl
          have t3 := (blk_cell HT6.out 3).trans rfl
          have t4 := (blk_cell HT6.out 4).trans rfl
          go_wp2_with fail
          clear t0 t1 t2 t3 t4
          refine (hear_more HCR.out HM6.out o HO.out.1 HO.out.2 (by have := HI.out; omega)).mono ?_
          rintro en w7 ⟨z, h2, rfl, hm, hk, hmore⟩
          have HM7 := Aside0.mk hm
          have HT7 := Aside0.mk (hk.blk HT6.out HTG.out.1)
          have HS7 := Aside0.mk (hk.blk HS6.out HK.out.1)
          have HB7 := Aside0.mk (Keeps.below_then HB6.out (Nat.le_refl _) hk (fun j hj => by have h1 : j = g := hj; have := HGG.out; omega))
          have HMO := Aside0.mk hmore
          clear hm hk hmore HM6 HT6 HS6 HB6
          have t0 := (blk_cell HT7.out 0).trans rfl
          go_wp2_with fail
          clear t0
          refine (sum_any HM7.out o.f0).mono ?_
          rintro en w8 ⟨rfl, hb⟩
          have HM8 := Aside0.mk (HM7.out.below hb)
          have HT8 := Aside0.mk (blk_below HT7.out hb)
          have HS8 := Aside0.mk (blk_below HS7.out hb)
          have HB8 := Aside0.mk (below_step HB7.out hb)
          clear hb HM7 HT7 HS7 HB7
          go_wp2_with fail
          have HN9 := Aside0.mk (blk_new w8 (.cells #[.int .u64 (kR h2 o.f0), .int .u64 (kW h2 o.f0)] 35))
          have HM9 := Aside0.mk (HM8.out.below (below_alloc (Below.refl _ _) (.cells #[.int .u64 (kR h2 o.f0), .int .u64 (kW h2 o.f0)] 35)))
          have HT9 := Aside0.mk (blk_below HT8.out (below_alloc (Below.refl _ _) (.cells #[.int .u64 (kR h2 o.f0), .int .u64 (kW h2 o.f0)] 35)))
          have HS9 := Aside0.mk (blk_below HS8.out (below_alloc (Below.refl _ _) (.cells #[.int .u64 (kR h2 o.f0), .int .u64 (kW h2 o.f0)] 35)))
          have HB9 := Aside0.mk (below_alloc HB8.out (.cells #[.int .u64 (kR h2 o.f0), .int .u64 (kW h2 o.f0)] 35))
          clear HM8 HT8 HS8 HB8
          generalize w8.alloc (.cells #[.int .u64 (kR h2 o.f0), .int .u64 (kW h2 o.f0)] 35) = w9 at HN9 HM9 HT9 HS9 HB9 ⊢
          generalize w8.heap.size = S at HN9 ⊢
          refine (bound_any HM9.out).mono ?_
          rintro en w10 ⟨rfl, hb⟩
          have HM10 := Aside0.mk (HM9.out.below hb)
          have HB10 := Aside0.mk (below_step HB9.out hb)
          have t0 := (blk_cell (blk_below HT9.out hb) 0).trans rfl
          have s0 := (blk_cell (blk_below HS9.out hb) 0).trans rfl
          have s1 := (blk_cell (blk_below HS9.out hb) 1).trans rfl
          have z0 := (blk_cell (blk_below HN9.out hb) 0).trans rfl
          have z1 := (blk_cell (blk_below HN9.out hb) 1).trans rfl
          clear hb HM9 HT9 HS9 HB9 HN9
          obtain ⟨m1, m2, m3⟩ := HMO.out.k o.f0
          have g1 : decide (mBnd c h2 < mBnd c h) = false := decide_eq_false (by have := HMO.out.bd; omega)
          have g2 : decide (kR h2 o.f0 < kR h o.f0) = false := decide_eq_false (by omega)
          have g3 : decide (kW h2 o.f0 < kW h o.f0) = false := decide_eq_false (by omega)
          have g4 : decide (kM h2 o.f0 < kM h o.f0) = false := decide_eq_false (by omega)
          clear m1 m2 m3
          go_wp2_with fail
          refine (most_any HM10.out o.f0).mono ?_
          rintro en w11 ⟨rfl, hb⟩
          have HM11 := Aside0.mk (HM10.out.below hb)
          have HB11 := Aside0.mk (below_step HB10.out hb)
          clear hb HM10 HB10 t0 s0 s1 z0 z1
          go_wp2_with fail
          go_roundg (100 - i)
          case measure => have := HI.out; omega
          case rel => exact ⟨i + 1, h2, by simp, ⟨by omega, by omega, by have := HMO.out.len; have := HI.out; omega⟩, HM11, HB11⟩
      · rw [decide_eq_false hgo]
        go_wp2_with fail
        refine (awake_calls _).mono ?_
        rintro en w5 ⟨rfl, hb⟩
        have HB5 := Aside0.mk (below_step HB.out hb)
        clear hb
        go_wp2_with fail
        go_ret
        exact ⟨by simp, HB5.out⟩

theorem grows_calls (c : Cfg) (A0 : Option Addr) (c0 : Nat) (l : List S37) (w : World) (hC : Kd.C k37 w A0 l.length l) (hc : l.length ≤ c0) (hl : ∀ o ∈ l, 0 ≤ o.f3.f0 ∧ 0 ≤ o.f3.f1) :
    Calls Try.prog 4 #[c.v, .slice A0 l.length c0] w fun e w' => e = .returned (.bool true) ∧ Below w.heap.size w w' := by
  by_cases hr : c.right
  · exact grows_right c hr A0 c0 l w hC hc hl
  · exact grows_wrong c hr _ w
end Go.Proofs.Ytkpdcacfokcpnaa.Q
