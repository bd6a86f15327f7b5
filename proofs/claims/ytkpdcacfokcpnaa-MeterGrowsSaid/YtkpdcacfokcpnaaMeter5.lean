/- A meter: Hear, where it hears. -/
import Derived.Test.YtkpdcacfokcpnaaMeter4
namespace Go.Proofs.Ytkpdcacfokcpnaa.Q
open Go.RowKit Go.Proofs.YtkpdcacfokcpnaaW.PrintWords Go.Proofs.YtkpdcacfokcpnaaW.PrintLast Go.Proofs.YtkpdcacfokcpnaaW.PrintMore
open Go.Proofs.Ytkpdcacfokcpnaa Go.Proofs.Ytkpdcacfokcpnaa.Vals
set_option linter.unusedVariables false
set_option linter.unusedSimpArgs false

set_option maxHeartbeats 2000000 in
theorem hear_ok {w : World} {g : Nat} {c : Cfg} {l : List S37} (h : Met w g c l) (o : S37) (ho : May o) (h0 : 0 ≤ o.f3.f0) (h1 : 0 ≤ o.f3.f1) (hl : l.length < 1048576) :
    Calls Try.prog 15 #[.pointer (some ⟨g, 0, none⟩), .int .i64 o.f0, .bool o.f1, .int .i64 o.f2, .agg #[.int .u64 o.f3.f0, .int .u64 o.f3.f1]] w fun e w' => e = .returned (.int .i64 0) ∧ Met w' g c (l ++ [o]) ∧ Keeps (fun k => k = g) w w' := by
  have hheard := h.heard.snoc ho h0 h1
  obtain ⟨⟨n1, n2⟩, ⟨n3, n4⟩, ⟨n5, n6⟩⟩ := heard_bd l h.heard
  obtain ⟨⟨s1, s2⟩, ⟨s3, s4⟩, ⟨s5, s6⟩⟩ := sum_bd o.f0 l h.heard
  have HH := Aside0.mk (show Heard (l ++ [o]) ∧ l.length < 1048576 from ⟨hheard, hl⟩)
  have hw1 := h.below (below_alloc (Below.refl _ _) (.cells #[.int .u64 o.f3.f0, .int .u64 o.f3.f1] 35))
  have hmc := hw1.mc
  have HN := Aside0.mk (none_met hw1)
  have hng : w.heap.size ≠ g := Nat.ne_of_gt h.lt
  have hgn : g ≠ w.heap.size := Nat.ne_of_lt h.lt
  have HZ := Aside0.mk (blk_new w (.cells #[.int .u64 o.f3.f0, .int .u64 o.f3.f1] 35))
  have HK := Aside0.mk ((Keeps.refl (fun k => k = g) w).alloc (.cells #[.int .u64 o.f3.f0, .int .u64 o.f3.f1] 35))
  have HC := Aside0.mk (fun w => change_calls o.f0 w)
  have HO := Aside0.mk ho
  unfold May at ho
  clear h hw1 hheard
  obtain ⟨lc, hlc⟩ : ∃ lc, nChg l = lc := ⟨_, rfl⟩
  obtain ⟨lf, hlf⟩ : ∃ lf, nFull l = lf := ⟨_, rfl⟩
  obtain ⟨lh, hlh⟩ : ∃ lh, hiOf l = lh := ⟨_, rfl⟩
  rw [hlc] at n1 n2 hmc
  rw [hlf] at n3 n4 hmc
  rw [hlh] at n5 n6 hmc
  have HE := Aside0.mk (And.intro hlc (And.intro hlf hlh))
  clear hlc hlf hlh
  obtain ⟨k, b, x, ⟨r, s⟩⟩ := o
  obtain ⟨k, rfl⟩ := Int.eq_ofNat_of_zero_le (show 0 ≤ k by have : 1 ≤ k := ho.1; omega)
  obtain ⟨m1, m2, m3, m4, m5, m6, m7⟩ := ho
  dsimp only at *
  obtain ⟨cs, hb, _, _, _, _, _, _, _, _, a8, a9, a10, a11, a12, _⟩ := hmc.ex
  have k9 := (blk_cell hb 9).trans a9
  have k10 := (blk_cell hb 10).trans a10
  have k11 := (blk_cell hb 11).trans a11
  have k12 := (blk_cell hb 12).trans a12
  have f9 := blk_frozen hb 9
  have f10 := blk_frozen hb 10
  have f11 := blk_frozen hb 11
  have f12 := blk_frozen hb 12
  have z0 := (blk_cell HZ.out 0).trans rfl
  have z1 := (blk_cell HZ.out 1).trans rfl
  have HM := Aside0.mk hmc
  have d1 : decide ((k : Int) < 1) = false := decide_eq_false (by omega)
  have d2 : decide ((7 : Int) < (k : Int)) = false := decide_eq_false (by omega)
  have d2' : decide (7 < k) = false := decide_eq_false (by omega)
  have d3 : decide (x < 1) = false := decide_eq_false (by omega)
  have d4 : decide (41 < x) = false := decide_eq_false (by omega)
  have d5 : decide (1099511627776 < r) = false := decide_eq_false (by omega)
  have d6 : decide (1099511627776 < s) = false := decide_eq_false (by omega)
  have d7 : decide ((1048576 : Int) ≤ (l.length : Int)) = false := decide_eq_false (by omega)
  have d8 : decide (1048576 ≤ l.length) = false := decide_eq_false (by omega)
  clear hmc hb a8 a9 a10 a11 a12
  have hcase : (b = true ∧ chg (k : Int) = true) ∨ (b = false ∧ chg (k : Int) = true) ∨ (b = false ∧ chg (k : Int) = false) := by
    cases b
    · cases chg (k : Int) <;> simp
    · exact Or.inl ⟨rfl, m5 rfl⟩
  clear m5
  go_enter Try.func15, Try.ntmps15
  go_wp2_with fail
  generalize w.alloc (.cells #[.int .u64 r, .int .u64 s] 35) = w1 at HN HZ HK HM k9 k10 k11 k12 f9 f10 f11 f12 z0 z1 ⊢
  obtain ⟨vr, hvr⟩ : ∃ v, sumR l (k : Int) = v := ⟨_, rfl⟩
  obtain ⟨vw, hvw⟩ : ∃ v, sumW l (k : Int) = v := ⟨_, rfl⟩
  obtain ⟨vm, hvm⟩ : ∃ v, mostOf l (k : Int) = v := ⟨_, rfl⟩
  rw [hvr] at s1 s2
  rw [hvw] at s3 s4
  rw [hvm] at s5 s6
  have HV := Aside0.mk (And.intro hvr (And.intro hvw hvm))
  have q1 : IntKind.u64.wrap (vr + r) = vr + r := u64w (by omega) (by omega)
  have q2 : IntKind.u64.wrap (vw + s) = vw + s := u64w (by omega) (by omega)
  have q3 : IntKind.u64.wrap (r + s) = r + s := u64w (by omega) (by omega)
  have Q1 := Aside0.mk q1
  have Q2 := Aside0.mk q2
  have Q3 := Aside0.mk q3
  clear hvr hvw hvm q1 q2 q3
  rcases hcase with ⟨rfl, hch⟩ | ⟨rfl, hch⟩ | ⟨rfl, hch⟩
  · rw [hch] at HC
    have HCH := Aside0.mk hch
    clear hch
    go_upto_region 16 with (first | (go_at_call 29; refine HN.out.mono ?_; rintro e w' ⟨rfl, rfl⟩) | (go_at_call 31; refine (HC.out _).mono ?_; rintro e w' ⟨rfl, rfl⟩))
    have HM2 := Aside0.mk ((((HM.out.setN ((l.length : Int) + 1)).setH (if lh < x then x else lh)).setA (lc + 1)).setB (lf + 1))
    have HK2 := Aside0.mk (((((HK.out).set (p := ⟨g, 9, none⟩) (Or.inl rfl) (.int .i64 ((l.length : Int) + 1))).set (p := ⟨g, 12, none⟩) (Or.inl rfl) (.int .i64 (if lh < x then x else lh))).set (p := ⟨g, 10, none⟩) (Or.inl rfl) (.int .i64 (lc + 1))).set (p := ⟨g, 11, none⟩) (Or.inl rfl) (.int .i64 (lf + 1)))
    have HZ2 := Aside0.mk (((((((Keeps.refl (fun k => k = g) w1)).set (p := ⟨g, 9, none⟩) (Or.inl rfl) (.int .i64 ((l.length : Int) + 1))).set (p := ⟨g, 12, none⟩) (Or.inl rfl) (.int .i64 (if lh < x then x else lh))).set (p := ⟨g, 10, none⟩) (Or.inl rfl) (.int .i64 (lc + 1))).set (p := ⟨g, 11, none⟩) (Or.inl rfl) (.int .i64 (lf + 1))).blk HZ.out hng)
    clear HM HK HZ HN k9 k10 k11 k12 f9 f10 f11 f12 z0 z1 d1 d2 d2' d3 d4 d5 d6 d7 d8
    generalize (((w1.setCell ⟨g, 9, none⟩ (.int .i64 ((l.length : Int) + 1))).setCell ⟨g, 12, none⟩ (.int .i64 (if lh < x then x else lh))).setCell ⟨g, 10, none⟩ (.int .i64 (lc + 1))).setCell ⟨g, 11, none⟩ (.int .i64 (lf + 1)) = w2 at HM2 HK2 HZ2 ⊢
    have HA := Aside0.mk (show lc + 1 = nChg (l ++ [⟨(k : Int), true, x, ⟨r, s⟩⟩]) ∧ lf + 1 = nFull (l ++ [⟨(k : Int), true, x, ⟨r, s⟩⟩]) from by
      rw [nChg_snoc, nFull_snoc]
      obtain ⟨e1, e2, e3⟩ := HE.out
      have e4 := HCH.out
      simp [e1, e2, e4])
    obtain ⟨cs2, hb2, _, _, _, _, _, _, _, _, _, _, _, _, _, hk2⟩ := HM2.out.ex
    obtain ⟨ha, _, _⟩ := hk2 k (by omega)
    have ka := (blk_cell hb2 (13 + k * 3)).trans ha
    rw [HV.out.1] at ka
    have fa := blk_frozen hb2 (13 + k * 3)
    have z0 := (blk_cell HZ2.out 0).trans rfl
    have q1 := Q1.out
    clear hb2 ha hk2
    go_region
    have HM3 := Aside0.mk ((HM2.out.setR (j := k) (by omega) (vr + r)).drew)
    have HK3 := Aside0.mk ((HK2.out.set (p := ⟨g, 13 + k * 3, none⟩) (Or.inl rfl) (.int .u64 (vr + r))).drew)
    have HZ3 := Aside0.mk ((((Keeps.refl (fun k => k = g) w2).set (p := ⟨g, 13 + k * 3, none⟩) (Or.inl rfl) (.int .u64 (vr + r))).drew).blk HZ2.out hng)
    clear HM2 HK2 HZ2 ka fa z0 q1
    generalize (w2.setCell ⟨g, 13 + k * 3, none⟩ (.int .u64 (vr + r))).drew = w3 at HM3 HK3 HZ3 ⊢
    go_upto_region 17 with fail
    obtain ⟨cs3, hb3, _, _, _, _, _, _, _, _, _, _, _, _, _, hk3⟩ := HM3.out.ex
    obtain ⟨_, ha, _⟩ := hk3 k (by omega)
    have ka := (blk_cell hb3 (13 + k * 3 + 1)).trans ha
    rw [HV.out.2.1] at ka
    have fa := blk_frozen hb3 (13 + k * 3 + 1)
    have z1 := (blk_cell HZ3.out 1).trans rfl
    have q2 := Q2.out
    clear hb3 ha hk3
    go_region
    have HM4 := Aside0.mk ((HM3.out.setW (j := k) (by omega) (vw + s)).drew)
    have HK4 := Aside0.mk ((HK3.out.set (p := ⟨g, 13 + k * 3 + 1, none⟩) (Or.inl rfl) (.int .u64 (vw + s))).drew)
    have HZ4 := Aside0.mk ((((Keeps.refl (fun k => k = g) w3).set (p := ⟨g, 13 + k * 3 + 1, none⟩) (Or.inl rfl) (.int .u64 (vw + s))).drew).blk HZ3.out hng)
    clear HM3 HK3 HZ3 ka fa z1 q2
    generalize (w3.setCell ⟨g, 13 + k * 3 + 1, none⟩ (.int .u64 (vw + s))).drew = w4 at HM4 HK4 HZ4 ⊢
    go_upto_region 18 with fail
    obtain ⟨cs4, hb4, _, _, _, _, _, _, _, _, _, _, _, _, _, hk4⟩ := HM4.out.ex
    obtain ⟨_, _, ha⟩ := hk4 k (by omega)
    have ka := (blk_cell hb4 (13 + k * 3 + 2)).trans ha
    rw [HV.out.2.2] at ka
    have fa := blk_frozen hb4 (13 + k * 3 + 2)
    have z0 := (blk_cell HZ4.out 0).trans rfl
    have z1 := (blk_cell HZ4.out 1).trans rfl
    have q3 := Q3.out
    clear hb4 ha hk4
    have HLT : True := trivial
    by_cases hlt : vm < r + s
    · go_region
      all_goals
        have HM5 := Aside0.mk ((HM4.out.setM (j := k) (by omega) (r + s)).drew)
        have HK5 := Aside0.mk ((HK4.out.set (p := ⟨g, 13 + k * 3 + 2, none⟩) (Or.inl rfl) (.int .u64 (r + s))).drew)
        clear HM4 HK4 HZ4 ka fa z0 z1 q3
        go_wp2_with fail
        all_goals
          go_ret
          refine ⟨by simp, MC.met HM5.out HH.out.1 HH.out.2 rfl HA.out.1 HA.out.2 ?_ (fun i => ?_) (fun i => ?_) (fun i => ?_), HK5.out⟩
          · rw [hiOf_snoc, HE.out.2.2]
          · rw [sumR_snoc]
            simp only [put]
            by_cases e : i = k
            · subst e; rw [if_pos rfl, if_pos rfl, HV.out.1]
            · rw [if_neg e, if_neg (by show ¬ ((k : Int) = (i : Int)); omega)]
          · rw [sumW_snoc]
            simp only [put]
            by_cases e : i = k
            · subst e; rw [if_pos rfl, if_pos rfl, HV.out.2.1]
            · rw [if_neg e, if_neg (by show ¬ ((k : Int) = (i : Int)); omega)]
          · rw [mostOf_snoc]
            simp only [put]
            by_cases e : i = k
            · subst e; rw [if_pos rfl, if_pos rfl, HV.out.2.2]; exact (if_pos (by omega)).symm
            · rw [if_neg e, if_neg (by show ¬ ((k : Int) = (i : Int)); omega)]
    · go_region
      all_goals
        have HM5 := Aside0.mk ((HM4.out.setM (j := k) (by omega) vm).drew)
        have HK5 := Aside0.mk ((HK4.out.set (p := ⟨g, 13 + k * 3 + 2, none⟩) (Or.inl rfl) (.int .u64 vm)).drew)
        clear HM4 HK4 HZ4 ka fa z0 z1 q3
        go_wp2_with fail
        all_goals
          go_ret
          refine ⟨by simp, MC.met HM5.out HH.out.1 HH.out.2 rfl HA.out.1 HA.out.2 ?_ (fun i => ?_) (fun i => ?_) (fun i => ?_), HK5.out⟩
          · rw [hiOf_snoc, HE.out.2.2]
          · rw [sumR_snoc]
            simp only [put]
            by_cases e : i = k
            · subst e; rw [if_pos rfl, if_pos rfl, HV.out.1]
            · rw [if_neg e, if_neg (by show ¬ ((k : Int) = (i : Int)); omega)]
          · rw [sumW_snoc]
            simp only [put]
            by_cases e : i = k
            · subst e; rw [if_pos rfl, if_pos rfl, HV.out.2.1]
            · rw [if_neg e, if_neg (by show ¬ ((k : Int) = (i : Int)); omega)]
          · rw [mostOf_snoc]
            simp only [put]
            by_cases e : i = k
            · subst e; rw [if_pos rfl, if_pos rfl, HV.out.2.2]; exact (if_neg (by omega)).symm
            · rw [if_neg e, if_neg (by show ¬ ((k : Int) = (i : Int)); omega)]
  · rw [hch] at HC
    have HCH := Aside0.mk hch
    clear hch
    go_upto_region 16 with (first | (go_at_call 29; refine HN.out.mono ?_; rintro e w' ⟨rfl, rfl⟩) | (go_at_call 31; refine (HC.out _).mono ?_; rintro e w' ⟨rfl, rfl⟩))
    have HM2 := Aside0.mk (((HM.out.setN ((l.length : Int) + 1)).setH (if lh < x then x else lh)).setA (lc + 1))
    have HK2 := Aside0.mk ((((HK.out).set (p := ⟨g, 9, none⟩) (Or.inl rfl) (.int .i64 ((l.length : Int) + 1))).set (p := ⟨g, 12, none⟩) (Or.inl rfl) (.int .i64 (if lh < x then x else lh))).set (p := ⟨g, 10, none⟩) (Or.inl rfl) (.int .i64 (lc + 1)))
    have HZ2 := Aside0.mk ((((((Keeps.refl (fun k => k = g) w1)).set (p := ⟨g, 9, none⟩) (Or.inl rfl) (.int .i64 ((l.length : Int) + 1))).set (p := ⟨g, 12, none⟩) (Or.inl rfl) (.int .i64 (if lh < x then x else lh))).set (p := ⟨g, 10, none⟩) (Or.inl rfl) (.int .i64 (lc + 1))).blk HZ.out hng)
    clear HM HK HZ HN k9 k10 k11 k12 f9 f10 f11 f12 z0 z1 d1 d2 d2' d3 d4 d5 d6 d7 d8
    generalize ((w1.setCell ⟨g, 9, none⟩ (.int .i64 ((l.length : Int) + 1))).setCell ⟨g, 12, none⟩ (.int .i64 (if lh < x then x else lh))).setCell ⟨g, 10, none⟩ (.int .i64 (lc + 1)) = w2 at HM2 HK2 HZ2 ⊢
    have HA := Aside0.mk (show lc + 1 = nChg (l ++ [⟨(k : Int), false, x, ⟨r, s⟩⟩]) ∧ lf = nFull (l ++ [⟨(k : Int), false, x, ⟨r, s⟩⟩]) from by
      rw [nChg_snoc, nFull_snoc]
      obtain ⟨e1, e2, e3⟩ := HE.out
      have e4 := HCH.out
      simp [e1, e2, e4])
    obtain ⟨cs2, hb2, _, _, _, _, _, _, _, _, _, _, _, _, _, hk2⟩ := HM2.out.ex
    obtain ⟨ha, _, _⟩ := hk2 k (by omega)
    have ka := (blk_cell hb2 (13 + k * 3)).trans ha
    rw [HV.out.1] at ka
    have fa := blk_frozen hb2 (13 + k * 3)
    have z0 := (blk_cell HZ2.out 0).trans rfl
    have q1 := Q1.out
    clear hb2 ha hk2
    go_region
    have HM3 := Aside0.mk ((HM2.out.setR (j := k) (by omega) (vr + r)).drew)
    have HK3 := Aside0.mk ((HK2.out.set (p := ⟨g, 13 + k * 3, none⟩) (Or.inl rfl) (.int .u64 (vr + r))).drew)
    have HZ3 := Aside0.mk ((((Keeps.refl (fun k => k = g) w2).set (p := ⟨g, 13 + k * 3, none⟩) (Or.inl rfl) (.int .u64 (vr + r))).drew).blk HZ2.out hng)
    clear HM2 HK2 HZ2 ka fa z0 q1
    generalize (w2.setCell ⟨g, 13 + k * 3, none⟩ (.int .u64 (vr + r))).drew = w3 at HM3 HK3 HZ3 ⊢
    go_upto_region 17 with fail
    obtain ⟨cs3, hb3, _, _, _, _, _, _, _, _, _, _, _, _, _, hk3⟩ := HM3.out.ex
    obtain ⟨_, ha, _⟩ := hk3 k (by omega)
    have ka := (blk_cell hb3 (13 + k * 3 + 1)).trans ha
    rw [HV.out.2.1] at ka
    have fa := blk_frozen hb3 (13 + k * 3 + 1)
    have z1 := (blk_cell HZ3.out 1).trans rfl
    have q2 := Q2.out
    clear hb3 ha hk3
    go_region
    have HM4 := Aside0.mk ((HM3.out.setW (j := k) (by omega) (vw + s)).drew)
    have HK4 := Aside0.mk ((HK3.out.set (p := ⟨g, 13 + k * 3 + 1, none⟩) (Or.inl rfl) (.int .u64 (vw + s))).drew)
    have HZ4 := Aside0.mk ((((Keeps.refl (fun k => k = g) w3).set (p := ⟨g, 13 + k * 3 + 1, none⟩) (Or.inl rfl) (.int .u64 (vw + s))).drew).blk HZ3.out hng)
    clear HM3 HK3 HZ3 ka fa z1 q2
    generalize (w3.setCell ⟨g, 13 + k * 3 + 1, none⟩ (.int .u64 (vw + s))).drew = w4 at HM4 HK4 HZ4 ⊢
    go_upto_region 18 with fail
    obtain ⟨cs4, hb4, _, _, _, _, _, _, _, _, _, _, _, _, _, hk4⟩ := HM4.out.ex
    obtain ⟨_, _, ha⟩ := hk4 k (by omega)
    have ka := (blk_cell hb4 (13 + k * 3 + 2)).trans ha
    rw [HV.out.2.2] at ka
    have fa := blk_frozen hb4 (13 + k * 3 + 2)
    have z0 := (blk_cell HZ4.out 0).trans rfl
    have z1 := (blk_cell HZ4.out 1).trans rfl
    have q3 := Q3.out
    clear hb4 ha hk4
    have HLT : True := trivial
    by_cases hlt : vm < r + s
    · go_region
      all_goals
        have HM5 := Aside0.mk ((HM4.out.setM (j := k) (by omega) (r + s)).drew)
        have HK5 := Aside0.mk ((HK4.out.set (p := ⟨g, 13 + k * 3 + 2, none⟩) (Or.inl rfl) (.int .u64 (r + s))).drew)
        clear HM4 HK4 HZ4 ka fa z0 z1 q3
        go_wp2_with fail
        all_goals
          go_ret
          refine ⟨by simp, MC.met HM5.out HH.out.1 HH.out.2 rfl HA.out.1 HA.out.2 ?_ (fun i => ?_) (fun i => ?_) (fun i => ?_), HK5.out⟩
          · rw [hiOf_snoc, HE.out.2.2]
          · rw [sumR_snoc]
            simp only [put]
            by_cases e : i = k
            · subst e; rw [if_pos rfl, if_pos rfl, HV.out.1]
            · rw [if_neg e, if_neg (by show ¬ ((k : Int) = (i : Int)); omega)]
          · rw [sumW_snoc]
            simp only [put]
            by_cases e : i = k
            · subst e; rw [if_pos rfl, if_pos rfl, HV.out.2.1]
            · rw [if_neg e, if_neg (by show ¬ ((k : Int) = (i : Int)); omega)]
          · rw [mostOf_snoc]
            simp only [put]
            by_cases e : i = k
            · subst e; rw [if_pos rfl, if_pos rfl, HV.out.2.2]; exact (if_pos (by omega)).symm
            · rw [if_neg e, if_neg (by show ¬ ((k : Int) = (i : Int)); omega)]
    · go_region
      all_goals
        have HM5 := Aside0.mk ((HM4.out.setM (j := k) (by omega) vm).drew)
        have HK5 := Aside0.mk ((HK4.out.set (p := ⟨g, 13 + k * 3 + 2, none⟩) (Or.inl rfl) (.int .u64 vm)).drew)
        clear HM4 HK4 HZ4 ka fa z0 z1 q3
        go_wp2_with fail
        all_goals
          go_ret
          refine ⟨by simp, MC.met HM5.out HH.out.1 HH.out.2 rfl HA.out.1 HA.out.2 ?_ (fun i => ?_) (fun i => ?_) (fun i => ?_), HK5.out⟩
          · rw [hiOf_snoc, HE.out.2.2]
          · rw [sumR_snoc]
            simp only [put]
            by_cases e : i = k
            · subst e; rw [if_pos rfl, if_pos rfl, HV.out.1]
            · rw [if_neg e, if_neg (by show ¬ ((k : Int) = (i : Int)); omega)]
          · rw [sumW_snoc]
            simp only [put]
            by_cases e : i = k
            · subst e; rw [if_pos rfl, if_pos rfl, HV.out.2.1]
            · rw [if_neg e, if_neg (by show ¬ ((k : Int) = (i : Int)); omega)]
          · rw [mostOf_snoc]
            simp only [put]
            by_cases e : i = k
            · subst e; rw [if_pos rfl, if_pos rfl, HV.out.2.2]; exact (if_neg (by omega)).symm
            · rw [if_neg e, if_neg (by show ¬ ((k : Int) = (i : Int)); omega)]
  · rw [hch] at HC
    have HCH := Aside0.mk hch
    clear hch
    go_upto_region 16 with (first | (go_at_call 29; refine HN.out.mono ?_; rintro e w' ⟨rfl, rfl⟩) | (go_at_call 31; refine (HC.out _).mono ?_; rintro e w' ⟨rfl, rfl⟩))
    have HM2 := Aside0.mk ((HM.out.setN ((l.length : Int) + 1)).setH (if lh < x then x else lh))
    have HK2 := Aside0.mk (((HK.out).set (p := ⟨g, 9, none⟩) (Or.inl rfl) (.int .i64 ((l.length : Int) + 1))).set (p := ⟨g, 12, none⟩) (Or.inl rfl) (.int .i64 (if lh < x then x else lh)))
    have HZ2 := Aside0.mk (((((Keeps.refl (fun k => k = g) w1)).set (p := ⟨g, 9, none⟩) (Or.inl rfl) (.int .i64 ((l.length : Int) + 1))).set (p := ⟨g, 12, none⟩) (Or.inl rfl) (.int .i64 (if lh < x then x else lh))).blk HZ.out hng)
    clear HM HK HZ HN k9 k10 k11 k12 f9 f10 f11 f12 z0 z1 d1 d2 d2' d3 d4 d5 d6 d7 d8
    generalize (w1.setCell ⟨g, 9, none⟩ (.int .i64 ((l.length : Int) + 1))).setCell ⟨g, 12, none⟩ (.int .i64 (if lh < x then x else lh)) = w2 at HM2 HK2 HZ2 ⊢
    have HA := Aside0.mk (show lc = nChg (l ++ [⟨(k : Int), false, x, ⟨r, s⟩⟩]) ∧ lf = nFull (l ++ [⟨(k : Int), false, x, ⟨r, s⟩⟩]) from by
      rw [nChg_snoc, nFull_snoc]
      obtain ⟨e1, e2, e3⟩ := HE.out
      have e4 := HCH.out
      simp [e1, e2, e4])
    obtain ⟨cs2, hb2, _, _, _, _, _, _, _, _, _, _, _, _, _, hk2⟩ := HM2.out.ex
    obtain ⟨ha, _, _⟩ := hk2 k (by omega)
    have ka := (blk_cell hb2 (13 + k * 3)).trans ha
    rw [HV.out.1] at ka
    have fa := blk_frozen hb2 (13 + k * 3)
    have z0 := (blk_cell HZ2.out 0).trans rfl
    have q1 := Q1.out
    clear hb2 ha hk2
    go_region
    have HM3 := Aside0.mk ((HM2.out.setR (j := k) (by omega) (vr + r)).drew)
    have HK3 := Aside0.mk ((HK2.out.set (p := ⟨g, 13 + k * 3, none⟩) (Or.inl rfl) (.int .u64 (vr + r))).drew)
    have HZ3 := Aside0.mk ((((Keeps.refl (fun k => k = g) w2).set (p := ⟨g, 13 + k * 3, none⟩) (Or.inl rfl) (.int .u64 (vr + r))).drew).blk HZ2.out hng)
    clear HM2 HK2 HZ2 ka fa z0 q1
    generalize (w2.setCell ⟨g, 13 + k * 3, none⟩ (.int .u64 (vr + r))).drew = w3 at HM3 HK3 HZ3 ⊢
    go_upto_region 17 with fail
    obtain ⟨cs3, hb3, _, _, _, _, _, _, _, _, _, _, _, _, _, hk3⟩ := HM3.out.ex
    obtain ⟨_, ha, _⟩ := hk3 k (by omega)
    have ka := (blk_cell hb3 (13 + k * 3 + 1)).trans ha
    rw [HV.out.2.1] at ka
    have fa := blk_frozen hb3 (13 + k * 3 + 1)
    have z1 := (blk_cell HZ3.out 1).trans rfl
    have q2 := Q2.out
    clear hb3 ha hk3
    go_region
    have HM4 := Aside0.mk ((HM3.out.setW (j := k) (by omega) (vw + s)).drew)
    have HK4 := Aside0.mk ((HK3.out.set (p := ⟨g, 13 + k * 3 + 1, none⟩) (Or.inl rfl) (.int .u64 (vw + s))).drew)
    have HZ4 := Aside0.mk ((((Keeps.refl (fun k => k = g) w3).set (p := ⟨g, 13 + k * 3 + 1, none⟩) (Or.inl rfl) (.int .u64 (vw + s))).drew).blk HZ3.out hng)
    clear HM3 HK3 HZ3 ka fa z1 q2
    generalize (w3.setCell ⟨g, 13 + k * 3 + 1, none⟩ (.int .u64 (vw + s))).drew = w4 at HM4 HK4 HZ4 ⊢
    go_upto_region 18 with fail
    obtain ⟨cs4, hb4, _, _, _, _, _, _, _, _, _, _, _, _, _, hk4⟩ := HM4.out.ex
    obtain ⟨_, _, ha⟩ := hk4 k (by omega)
    have ka := (blk_cell hb4 (13 + k * 3 + 2)).trans ha
    rw [HV.out.2.2] at ka
    have fa := blk_frozen hb4 (13 + k * 3 + 2)
    have z0 := (blk_cell HZ4.out 0).trans rfl
    have z1 := (blk_cell HZ4.out 1).trans rfl
    have q3 := Q3.out
    clear hb4 ha hk4
    have HLT : True := trivial
    by_cases hlt : vm < r + s
    · go_region
      all_goals
        have HM5 := Aside0.mk ((HM4.out.setM (j := k) (by omega) (r + s)).drew)
        have HK5 := Aside0.mk ((HK4.out.set (p := ⟨g, 13 + k * 3 + 2, none⟩) (Or.inl rfl) (.int .u64 (r + s))).drew)
        clear HM4 HK4 HZ4 ka fa z0 z1 q3
        go_wp2_with fail
        all_goals
          go_ret
          refine ⟨by simp, MC.met HM5.out HH.out.1 HH.out.2 rfl HA.out.1 HA.out.2 ?_ (fun i => ?_) (fun i => ?_) (fun i => ?_), HK5.out⟩
          · rw [hiOf_snoc, HE.out.2.2]
          · rw [sumR_snoc]
            simp only [put]
            by_cases e : i = k
            · subst e; rw [if_pos rfl, if_pos rfl, HV.out.1]
            · rw [if_neg e, if_neg (by show ¬ ((k : Int) = (i : Int)); omega)]
          · rw [sumW_snoc]
            simp only [put]
            by_cases e : i = k
            · subst e; rw [if_pos rfl, if_pos rfl, HV.out.2.1]
            · rw [if_neg e, if_neg (by show ¬ ((k : Int) = (i : Int)); omega)]
          · rw [mostOf_snoc]
            simp only [put]
            by_cases e : i = k
            · subst e; rw [if_pos rfl, if_pos rfl, HV.out.2.2]; exact (if_pos (by omega)).symm
            · rw [if_neg e, if_neg (by show ¬ ((k : Int) = (i : Int)); omega)]
    · go_region
      all_goals
        have HM5 := Aside0.mk ((HM4.out.setM (j := k) (by omega) vm).drew)
        have HK5 := Aside0.mk ((HK4.out.set (p := ⟨g, 13 + k * 3 + 2, none⟩) (Or.inl rfl) (.int .u64 vm)).drew)
        clear HM4 HK4 HZ4 ka fa z0 z1 q3
        go_wp2_with fail
        all_goals
          go_ret
          refine ⟨by simp, MC.met HM5.out HH.out.1 HH.out.2 rfl HA.out.1 HA.out.2 ?_ (fun i => ?_) (fun i => ?_) (fun i => ?_), HK5.out⟩
          · rw [hiOf_snoc, HE.out.2.2]
          · rw [sumR_snoc]
            simp only [put]
            by_cases e : i = k
            · subst e; rw [if_pos rfl, if_pos rfl, HV.out.1]
            · rw [if_neg e, if_neg (by show ¬ ((k : Int) = (i : Int)); omega)]
          · rw [sumW_snoc]
            simp only [put]
            by_cases e : i = k
            · subst e; rw [if_pos rfl, if_pos rfl, HV.out.2.1]
            · rw [if_neg e, if_neg (by show ¬ ((k : Int) = (i : Int)); omega)]
          · rw [mostOf_snoc]
            simp only [put]
            by_cases e : i = k
            · subst e; rw [if_pos rfl, if_pos rfl, HV.out.2.2]; exact (if_neg (by omega)).symm
            · rw [if_neg e, if_neg (by show ¬ ((k : Int) = (i : Int)); omega)]
end Go.Proofs.Ytkpdcacfokcpnaa.Q
