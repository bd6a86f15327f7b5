/- The page's example of a meter; the bound of any settings. -/
import Derived.Test.YtkpdcacfokcpnaaMeter5
namespace Go.Proofs.Ytkpdcacfokcpnaa.Q
open Go.RowKit Go.Proofs.YtkpdcacfokcpnaaW.PrintWords Go.Proofs.YtkpdcacfokcpnaaW.PrintLast Go.Proofs.YtkpdcacfokcpnaaW.PrintMore
open Go.Proofs.Ytkpdcacfokcpnaa Go.Proofs.Ytkpdcacfokcpnaa.Vals
set_option linter.unusedVariables false
set_option linter.unusedSimpArgs false

def ex : Cfg := ⟨9, 200, 8, 8, 16, 16, 2, 1⟩
theorem ex_right : ex.right := by unfold Cfg.right Cfg.sized Cfg.inner Cfg.outer; decide
def exo : S37 := ⟨1, false, 2, ⟨30, 34⟩⟩
theorem exo_may : May exo := by decide
theorem ex_bnd : bnd ex 10 0 2 = 672 := by
  unfold bnd
  rw [if_pos ⟨ex_right, by decide⟩]
  decide
theorem ex_mbnd : mBnd ex [exo] = 96 := by
  unfold mBnd bnd
  rw [if_pos ⟨ex_right, by decide⟩]
  decide

structure CfgAt (w : World) (S : Nat) (c : Cfg) : Prop where
  blk : w.heap[S]? = some (.cells #[.int .i64 c.blocks, .int .i64 c.bytes, .int .i64 c.frames, .int .i64 c.fan, .int .i64 c.buf, .int .i64 c.leaf, .int .i64 c.key, .int .i64 c.val] 23 (0, 0))
theorem CfgAt.below {w w' : World} {S : Nat} {c : Cfg} (h : CfgAt w S c) (hb : Below w.heap.size w w') : CfgAt w' S c := ⟨blk_below h.blk hb⟩
theorem CfgAt.cells {w : World} {S : Nat} {c : Cfg} (h : CfgAt w S c) : w.cell? ⟨S, 0, none⟩ = some (.int .i64 c.blocks) ∧ w.cell? ⟨S, 1, none⟩ = some (.int .i64 c.bytes) ∧ w.cell? ⟨S, 2, none⟩ = some (.int .i64 c.frames) ∧ w.cell? ⟨S, 3, none⟩ = some (.int .i64 c.fan) ∧ w.cell? ⟨S, 4, none⟩ = some (.int .i64 c.buf) ∧ w.cell? ⟨S, 5, none⟩ = some (.int .i64 c.leaf) ∧ w.cell? ⟨S, 6, none⟩ = some (.int .i64 c.key) ∧ w.cell? ⟨S, 7, none⟩ = some (.int .i64 c.val) :=
  ⟨(blk_cell h.blk 0).trans rfl, (blk_cell h.blk 1).trans rfl, (blk_cell h.blk 2).trans rfl, (blk_cell h.blk 3).trans rfl, (blk_cell h.blk 4).trans rfl, (blk_cell h.blk 5).trans rfl, (blk_cell h.blk 6).trans rfl, (blk_cell h.blk 7).trans rfl⟩

set_option maxHeartbeats 1000000 in
theorem awake_calls (w : World) : Calls Try.prog 9 #[] w fun e w' => e = .returned (.bool true) ∧ Below w.heap.size w w' := by
  have HZ := Aside0.mk (show CfgAt (w.alloc (.cells #[.int .i64 9, .int .i64 200, .int .i64 8, .int .i64 8, .int .i64 16, .int .i64 16, .int .i64 2, .int .i64 1] 23)) w.heap.size ex from ⟨blk_new w _⟩)
  have HB := Aside0.mk (below_alloc (Below.refl w.heap.size w) (.cells #[.int .i64 9, .int .i64 200, .int .i64 8, .int .i64 8, .int .i64 16, .int .i64 16, .int .i64 2, .int .i64 1] 23))
  have HNW := Aside0.mk (fun w => new_right ex ex_right w)
  go_enter Try.func9, Try.ntmps9
  go_wp2_with fail
  refine (HNW.out _).mono ?_
  rintro en w1 ⟨g, rfl, hm, hg, hb⟩
  have HM := Aside0.mk hm
  have HGG := Aside0.mk (Nat.le_trans HB.out.size hg)
  have HNE := Aside0.mk (show g ≠ w.heap.size by have h1 := blk_lt HZ.out.blk; omega)
  have HZ1 := Aside0.mk (HZ.out.below hb)
  have HB1 := Aside0.mk (below_step HB.out hb)
  clear hm hg hb HZ HB HNW
  go_wp2_with fail
  refine (hear_ok HM.out exo exo_may (by decide) (by decide) (by decide)).mono ?_
  rintro en w2 ⟨rfl, hm, hk⟩
  have HM2 := Aside0.mk (show Met w2 g ex [exo] from hm)
  have HZ2 := Aside0.mk (show CfgAt w2 w.heap.size ex from ⟨hk.blk HZ1.out.blk (fun h => HNE.out h.symm)⟩)
  have HB2 := Aside0.mk (Keeps.below_then HB1.out (Nat.le_refl _) hk (fun i hi => by have h1 : i = g := hi; have h2 := HGG.out; omega))
  clear hm hk HM HZ1 HB1
  obtain ⟨k0, k1, k2, k3, k4, k5, k6, k7⟩ := HZ2.out.cells
  have hbd := bound_calls ex 10 0 2 w2
  rw [ex_bnd] at hbd
  have HBD := Aside0.mk hbd
  clear hbd
  go_wp2_with fail
  refine HBD.out.mono ?_
  rintro en w3 ⟨rfl, hb⟩
  have HM3 := Aside0.mk (HM2.out.below hb)
  have HB3 := Aside0.mk (below_step HB2.out hb)
  clear hb HM2 HB2 k0 k1 k2 k3 k4 k5 k6 k7
  have hbd := bound_any HM3.out
  rw [ex_mbnd] at hbd
  have HBD := Aside0.mk hbd
  clear hbd
  go_wp2_with fail
  refine HBD.out.mono ?_
  rintro en w4 ⟨rfl, hb⟩
  have HM4 := Aside0.mk (HM3.out.below hb)
  have HB4 := Aside0.mk (below_step HB3.out hb)
  clear hb HM3 HB3
  have hwi := within_any HM4.out
  rw [show decide (mCost [exo] ≤ mBnd ex [exo]) = true from by rw [ex_mbnd]; decide] at hwi
  have HWI := Aside0.mk hwi
  clear hwi
  go_wp2_with fail
  refine HWI.out.mono ?_
  rintro en w5 ⟨rfl, hb⟩
  have HM5 := Aside0.mk (HM4.out.below hb)
  have HB5 := Aside0.mk (below_step HB4.out hb)
  clear hb HM4 HB4
  have hmo := most_any HM5.out 1
  rw [show kM [exo] 1 = 64 from by decide] at hmo
  have HMO := Aside0.mk hmo
  clear hmo
  go_wp2_with fail
  refine HMO.out.mono ?_
  rintro en w6 ⟨rfl, hb⟩
  have HB6 := Aside0.mk (below_step HB5.out hb)
  clear hb
  go_wp2_with fail
  go_ret
  exact ⟨by simp, HB6.out⟩

theorem bnd_32 {c : Cfg} {n e h : Int} (hr : c.right) (h1 : 0 ≤ n ∧ 0 ≤ e ∧ 0 ≤ h ∧ n ≤ 1048576 ∧ e ≤ 1048576 ∧ h ≤ 1048576) : 32 ≤ bnd c n e h := by
  unfold bnd
  rw [if_pos ⟨hr, h1⟩]
  obtain ⟨b1, b2, _⟩ := Cfg.move_bd hr.1
  obtain ⟨p1, p2⟩ := prod_bd h1.1 h1.2.2.1 h1.2.2.2.1 h1.2.2.2.2.2
  obtain ⟨u1, u2⟩ := up_bd b1 p1 p2 b2
  omega

set_option maxHeartbeats 1000000 in
theorem bounds_calls (c : Cfg) (n e h : Int) (w : World) : Calls Try.prog 3 #[c.v, .int .i64 n, .int .i64 e, .int .i64 h] w fun en w' => en = .returned (.bool true) ∧ Below w.heap.size w w' := by
  have HZ := Aside0.mk (show CfgAt (w.alloc (.cells #[.int .i64 c.blocks, .int .i64 c.bytes, .int .i64 c.frames, .int .i64 c.fan, .int .i64 c.buf, .int .i64 c.leaf, .int .i64 c.key, .int .i64 c.val] 23)) w.heap.size c from ⟨blk_new w _⟩)
  have HB := Aside0.mk (below_alloc (Below.refl w.heap.size w) (.cells #[.int .i64 c.blocks, .int .i64 c.bytes, .int .i64 c.frames, .int .i64 c.fan, .int .i64 c.buf, .int .i64 c.leaf, .int .i64 c.key, .int .i64 c.val] 23))
  have HBD := Aside0.mk (fun w => bound_calls c n e h w)
  have hrr := fun w => rright_calls c w
  have hz0 : ¬ (c.right ∧ 0 ≤ n ∧ 0 ≤ e ∧ 0 ≤ h ∧ n ≤ 1048576 ∧ e ≤ 1048576 ∧ h ≤ 1048576) → bnd c n e h = 0 := fun hh => by unfold bnd; exact if_neg hh
  have hcase : (decide c.right = false ∧ bnd c n e h = 0) ∨ (decide c.right = true ∧ ((decide (n < 0) = true ∧ bnd c n e h = 0) ∨ (decide (n < 0) = false ∧ ((decide (e < 0) = true ∧ bnd c n e h = 0) ∨ (decide (e < 0) = false ∧ ((decide (h < 0) = true ∧ bnd c n e h = 0) ∨ (decide (h < 0) = false ∧
      ((decide (1048576 < n) = true ∧ bnd c n e h = 0) ∨ (decide (1048576 < n) = false ∧ ((decide (1048576 < e) = true ∧ bnd c n e h = 0) ∨ (decide (1048576 < e) = false ∧ ((decide (1048576 < h) = true ∧ bnd c n e h = 0) ∨ decide (1048576 < h) = false))))))))))))  := by
    by_cases q : c.right
    · refine Or.inr ⟨decide_eq_true q, ?_⟩
      by_cases q1 : n < 0
      · exact Or.inl ⟨decide_eq_true q1, hz0 (by omega)⟩
      · refine Or.inr ⟨decide_eq_false q1, ?_⟩
        by_cases q2 : e < 0
        · exact Or.inl ⟨decide_eq_true q2, hz0 (by omega)⟩
        · refine Or.inr ⟨decide_eq_false q2, ?_⟩
          by_cases q3 : h < 0
          · exact Or.inl ⟨decide_eq_true q3, hz0 (by omega)⟩
          · refine Or.inr ⟨decide_eq_false q3, ?_⟩
            by_cases q4 : 1048576 < n
            · exact Or.inl ⟨decide_eq_true q4, hz0 (by omega)⟩
            · refine Or.inr ⟨decide_eq_false q4, ?_⟩
              by_cases q5 : 1048576 < e
              · exact Or.inl ⟨decide_eq_true q5, hz0 (by omega)⟩
              · refine Or.inr ⟨decide_eq_false q5, ?_⟩
                by_cases q6 : 1048576 < h
                · exact Or.inl ⟨decide_eq_true q6, hz0 (by omega)⟩
                · exact Or.inr (decide_eq_false q6)
    · exact Or.inl ⟨decide_eq_false q, hz0 (fun h => q h.1)⟩
  clear hz0
  rcases hcase with ⟨d0, d9⟩ | ⟨d0, ⟨d1, d9⟩ | ⟨d1, ⟨d2, d9⟩ | ⟨d2, ⟨d3, d9⟩ | ⟨d3, ⟨d4, d9⟩ | ⟨d4, ⟨d5, d9⟩ | ⟨d5, ⟨d6, d9⟩ | d6⟩⟩⟩⟩⟩⟩
  rotate_right
  · have HR := Aside0.mk (show c.right ∧ 0 ≤ n ∧ 0 ≤ e ∧ 0 ≤ h ∧ n ≤ 1048576 ∧ e ≤ 1048576 ∧ h ≤ 1048576 from by
      have e0 := of_decide_eq_true d0
      have e1 := of_decide_eq_false d1
      have e2 := of_decide_eq_false d2
      have e3 := of_decide_eq_false d3
      have e4 := of_decide_eq_false d4
      have e5 := of_decide_eq_false d5
      have e6 := of_decide_eq_false d6
      exact ⟨e0, by omega, by omega, by omega, by omega, by omega, by omega⟩)
    rw [d0] at hrr
    have HRR := Aside0.mk hrr
    have HRB := Aside0.mk (fun w => rbound_calls c HR.out.1 n e h ⟨HR.out.2.1, HR.out.2.2.2.2.1⟩ ⟨HR.out.2.2.1, HR.out.2.2.2.2.2.1⟩ ⟨HR.out.2.2.2.1, HR.out.2.2.2.2.2.2⟩ w)
    have h32 := bnd_32 HR.out.1 HR.out.2
    obtain ⟨bb, hbb⟩ : ∃ bb, bnd c n e h = bb := ⟨_, rfl⟩
    rw [hbb] at HBD HRB h32
    have d7 : decide ((32 : Int) ≤ bb) = true := decide_eq_true h32
    clear hrr d0 hbb h32
    go_enter Try.func3, Try.ntmps3
    go_wp2_with fail
    refine (HBD.out _).mono ?_
    rintro en w1 ⟨rfl, hb⟩
    have HZ1 := Aside0.mk (HZ.out.below hb)
    have HB1 := Aside0.mk (below_step HB.out hb)
    clear hb
    obtain ⟨k0, k1, k2, k3, k4, k5, k6, k7⟩ := HZ1.out.cells
    go_wp2_with fail
    refine (HRR.out _).mono ?_
    rintro en w2 ⟨rfl, hb⟩
    have HZ2 := Aside0.mk (HZ1.out.below hb)
    have HB2 := Aside0.mk (below_step HB1.out hb)
    clear hb k0 k1 k2 k3 k4 k5 k6 k7
    obtain ⟨k0, k1, k2, k3, k4, k5, k6, k7⟩ := HZ2.out.cells
    go_wp2_with fail
    refine (HRB.out _).mono ?_
    rintro en w3 ⟨rfl, hb⟩
    have HB3 := Aside0.mk (below_step HB2.out hb)
    clear hb k0 k1 k2 k3 k4 k5 k6 k7
    go_wp2_with fail
    refine (awake_calls _).mono ?_
    rintro en w4 ⟨rfl, hb⟩
    have HB4 := Aside0.mk (below_step HB3.out hb)
    clear hb
    go_wp2_with fail
    go_ret
    exact ⟨by simp, HB4.out⟩
  all_goals
    rw [d9] at HBD
    rw [d0] at hrr
    have HRR := Aside0.mk hrr
    clear hrr d0 d9
    go_enter Try.func3, Try.ntmps3
    go_wp2_with fail
    refine (HBD.out _).mono ?_
    rintro en w1 ⟨rfl, hb⟩
    have HZ1 := Aside0.mk (HZ.out.below hb)
    have HB1 := Aside0.mk (below_step HB.out hb)
    clear hb
    obtain ⟨k0, k1, k2, k3, k4, k5, k6, k7⟩ := HZ1.out.cells
    go_wp2_with fail
    refine (HRR.out _).mono ?_
    rintro en w2 ⟨rfl, hb⟩
    have HB2 := Aside0.mk (below_step HB1.out hb)
    clear hb k0 k1 k2 k3 k4 k5 k6 k7
    go_wp2_with fail
    refine (awake_calls _).mono ?_
    rintro en w4 ⟨rfl, hb⟩
    have HB4 := Aside0.mk (below_step HB2.out hb)
    clear hb
    go_wp2_with fail
    go_ret
    exact ⟨by simp, HB4.out⟩
end Go.Proofs.Ytkpdcacfokcpnaa.Q
