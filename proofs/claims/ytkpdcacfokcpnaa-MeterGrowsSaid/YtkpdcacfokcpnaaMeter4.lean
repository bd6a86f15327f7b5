/- A meter: Hear. -/
import Derived.Test.YtkpdcacfokcpnaaMeter3
namespace Go.Proofs.Ytkpdcacfokcpnaa.Q
open Go.RowKit Go.Proofs.YtkpdcacfokcpnaaW.PrintWords Go.Proofs.YtkpdcacfokcpnaaW.PrintLast Go.Proofs.YtkpdcacfokcpnaaW.PrintMore
open Go.Proofs.Ytkpdcacfokcpnaa Go.Proofs.Ytkpdcacfokcpnaa.Vals
set_option linter.unusedVariables false
set_option linter.unusedSimpArgs false

theorem change_calls (k : Int) (w : World) : Calls Try.prog 31 #[.int .i64 k] w fun e w' => e = .returned (.bool (chg k)) ∧ w = w' := by
  unfold chg
  by_cases h1 : k = 1
  · subst h1
    go_enter Try.func31, Try.ntmps31
    go_wp2_with fail
    go_ret
    exact ⟨by simp, rfl⟩
  · have e1 : (k == 1) = false := by simp [h1]
    go_enter Try.func31, Try.ntmps31
    go_wp2_with fail
    go_ret
    exact ⟨by simp [h1], rfl⟩

/-- A meter's cells, whatever they tell. -/
structure MC (w : World) (g : Nat) (c : Cfg) (n a b h : Int) (R W M : Nat → Int) : Prop where
  ex : ∃ cs : Array Value, w.heap[g]? = some (.cells cs 54 (0, 0)) ∧ cs[0]? = some (.int .i64 c.blocks) ∧ cs[1]? = some (.int .i64 c.bytes) ∧ cs[2]? = some (.int .i64 c.frames) ∧ cs[3]? = some (.int .i64 c.fan) ∧ cs[4]? = some (.int .i64 c.buf) ∧ cs[5]? = some (.int .i64 c.leaf) ∧ cs[6]? = some (.int .i64 c.key) ∧ cs[7]? = some (.int .i64 c.val) ∧
    cs[8]? = some (.bool true) ∧ cs[9]? = some (.int .i64 n) ∧ cs[10]? = some (.int .i64 a) ∧ cs[11]? = some (.int .i64 b) ∧ cs[12]? = some (.int .i64 h) ∧
    ∀ k : Nat, k < 8 → cs[13 + k * 3]? = some (.int .u64 (R k)) ∧ cs[13 + k * 3 + 1]? = some (.int .u64 (W k)) ∧ cs[13 + k * 3 + 2]? = some (.int .u64 (M k))
def put (f : Nat → Int) (k : Nat) (v : Int) : Nat → Int := fun i => if i = k then v else f i
section
variable {w : World} {g : Nat} {c : Cfg} {n a b h : Int} {R W M : Nat → Int}
theorem MC.drew (hm : MC w g c n a b h R W M) : MC w.drew g c n a b h R W M := ⟨hm.ex⟩
theorem MC.setN (hm : MC w g c n a b h R W M) (v : Int) : MC (w.setCell ⟨g, 9, none⟩ (.int .i64 v)) g c v a b h R W M := by
  obtain ⟨cs, h1, a0, a1, a2, a3, a4, a5, a6, a7, a8, a9, a10, a11, a12, ak⟩ := hm.ex
  have l9 := (Array.getElem?_eq_some_iff.1 a9).1
  refine ⟨_, blk_set h1 9 _, ?_, ?_, ?_, ?_, ?_, ?_, ?_, ?_, ?_, ?_, ?_, ?_, ?_, fun k hk => ?_⟩
  all_goals first | (rw [Array.getElem?_setIfInBounds_ne (by omega)]; assumption) | (rw [Array.getElem?_setIfInBounds_self_of_lt l9]) | skip
  rw [Array.getElem?_setIfInBounds_ne (by omega), Array.getElem?_setIfInBounds_ne (by omega), Array.getElem?_setIfInBounds_ne (by omega)]
  exact ak k hk
theorem MC.setA (hm : MC w g c n a b h R W M) (v : Int) : MC (w.setCell ⟨g, 10, none⟩ (.int .i64 v)) g c n v b h R W M := by
  obtain ⟨cs, h1, a0, a1, a2, a3, a4, a5, a6, a7, a8, a9, a10, a11, a12, ak⟩ := hm.ex
  have l9 := (Array.getElem?_eq_some_iff.1 a10).1
  refine ⟨_, blk_set h1 10 _, ?_, ?_, ?_, ?_, ?_, ?_, ?_, ?_, ?_, ?_, ?_, ?_, ?_, fun k hk => ?_⟩
  all_goals first | (rw [Array.getElem?_setIfInBounds_ne (by omega)]; assumption) | (rw [Array.getElem?_setIfInBounds_self_of_lt l9]) | skip
  rw [Array.getElem?_setIfInBounds_ne (by omega), Array.getElem?_setIfInBounds_ne (by omega), Array.getElem?_setIfInBounds_ne (by omega)]
  exact ak k hk
theorem MC.setB (hm : MC w g c n a b h R W M) (v : Int) : MC (w.setCell ⟨g, 11, none⟩ (.int .i64 v)) g c n a v h R W M := by
  obtain ⟨cs, h1, a0, a1, a2, a3, a4, a5, a6, a7, a8, a9, a10, a11, a12, ak⟩ := hm.ex
  have l9 := (Array.getElem?_eq_some_iff.1 a11).1
  refine ⟨_, blk_set h1 11 _, ?_, ?_, ?_, ?_, ?_, ?_, ?_, ?_, ?_, ?_, ?_, ?_, ?_, fun k hk => ?_⟩
  all_goals first | (rw [Array.getElem?_setIfInBounds_ne (by omega)]; assumption) | (rw [Array.getElem?_setIfInBounds_self_of_lt l9]) | skip
  rw [Array.getElem?_setIfInBounds_ne (by omega), Array.getElem?_setIfInBounds_ne (by omega), Array.getElem?_setIfInBounds_ne (by omega)]
  exact ak k hk
theorem MC.setH (hm : MC w g c n a b h R W M) (v : Int) : MC (w.setCell ⟨g, 12, none⟩ (.int .i64 v)) g c n a b v R W M := by
  obtain ⟨cs, h1, a0, a1, a2, a3, a4, a5, a6, a7, a8, a9, a10, a11, a12, ak⟩ := hm.ex
  have l9 := (Array.getElem?_eq_some_iff.1 a12).1
  refine ⟨_, blk_set h1 12 _, ?_, ?_, ?_, ?_, ?_, ?_, ?_, ?_, ?_, ?_, ?_, ?_, ?_, fun k hk => ?_⟩
  all_goals first | (rw [Array.getElem?_setIfInBounds_ne (by omega)]; assumption) | (rw [Array.getElem?_setIfInBounds_self_of_lt l9]) | skip
  rw [Array.getElem?_setIfInBounds_ne (by omega), Array.getElem?_setIfInBounds_ne (by omega), Array.getElem?_setIfInBounds_ne (by omega)]
  exact ak k hk
theorem MC.setR (hm : MC w g c n a b h R W M) {j : Nat} (hj : j < 8) (v : Int) : MC (w.setCell ⟨g, 13 + j * 3, none⟩ (.int .u64 v)) g c n a b h (put R j v) W M := by
  obtain ⟨cs, h1, a0, a1, a2, a3, a4, a5, a6, a7, a8, a9, a10, a11, a12, ak⟩ := hm.ex
  have l9 := (Array.getElem?_eq_some_iff.1 (ak j hj).1).1
  refine ⟨_, blk_set h1 (13 + j * 3) _, ?_, ?_, ?_, ?_, ?_, ?_, ?_, ?_, ?_, ?_, ?_, ?_, ?_, fun k hk => ?_⟩
  all_goals first | (rw [Array.getElem?_setIfInBounds_ne (by omega)]; assumption) | skip
  obtain ⟨x, y, z⟩ := ak k hk
  rw [Array.getElem?_setIfInBounds_ne (show 13 + j * 3 ≠ 13 + k * 3 + 1 by omega), Array.getElem?_setIfInBounds_ne (show 13 + j * 3 ≠ 13 + k * 3 + 2 by omega)]
  refine ⟨?_, y, z⟩
  by_cases e : k = j
  · subst e; rw [Array.getElem?_setIfInBounds_self_of_lt l9]; simp [put]
  · rw [Array.getElem?_setIfInBounds_ne (by omega), x]; simp [put, e]
theorem MC.setW (hm : MC w g c n a b h R W M) {j : Nat} (hj : j < 8) (v : Int) : MC (w.setCell ⟨g, 13 + j * 3 + 1, none⟩ (.int .u64 v)) g c n a b h R (put W j v) M := by
  obtain ⟨cs, h1, a0, a1, a2, a3, a4, a5, a6, a7, a8, a9, a10, a11, a12, ak⟩ := hm.ex
  have l9 := (Array.getElem?_eq_some_iff.1 (ak j hj).2.1).1
  refine ⟨_, blk_set h1 (13 + j * 3 + 1) _, ?_, ?_, ?_, ?_, ?_, ?_, ?_, ?_, ?_, ?_, ?_, ?_, ?_, fun k hk => ?_⟩
  all_goals first | (rw [Array.getElem?_setIfInBounds_ne (by omega)]; assumption) | skip
  obtain ⟨x, y, z⟩ := ak k hk
  rw [Array.getElem?_setIfInBounds_ne (show 13 + j * 3 + 1 ≠ 13 + k * 3 by omega), Array.getElem?_setIfInBounds_ne (show 13 + j * 3 + 1 ≠ 13 + k * 3 + 2 by omega)]
  refine ⟨x, ?_, z⟩
  by_cases e : k = j
  · subst e; rw [Array.getElem?_setIfInBounds_self_of_lt l9]; simp [put]
  · rw [Array.getElem?_setIfInBounds_ne (by omega), y]; simp [put, e]
theorem MC.setM (hm : MC w g c n a b h R W M) {j : Nat} (hj : j < 8) (v : Int) : MC (w.setCell ⟨g, 13 + j * 3 + 2, none⟩ (.int .u64 v)) g c n a b h R W (put M j v) := by
  obtain ⟨cs, h1, a0, a1, a2, a3, a4, a5, a6, a7, a8, a9, a10, a11, a12, ak⟩ := hm.ex
  have l9 := (Array.getElem?_eq_some_iff.1 (ak j hj).2.2).1
  refine ⟨_, blk_set h1 (13 + j * 3 + 2) _, ?_, ?_, ?_, ?_, ?_, ?_, ?_, ?_, ?_, ?_, ?_, ?_, ?_, fun k hk => ?_⟩
  all_goals first | (rw [Array.getElem?_setIfInBounds_ne (by omega)]; assumption) | skip
  obtain ⟨x, y, z⟩ := ak k hk
  rw [Array.getElem?_setIfInBounds_ne (show 13 + j * 3 + 2 ≠ 13 + k * 3 by omega), Array.getElem?_setIfInBounds_ne (show 13 + j * 3 + 2 ≠ 13 + k * 3 + 1 by omega)]
  refine ⟨x, y, ?_⟩
  by_cases e : k = j
  · subst e; rw [Array.getElem?_setIfInBounds_self_of_lt l9]; simp [put]
  · rw [Array.getElem?_setIfInBounds_ne (by omega), z]; simp [put, e]
end
theorem Met.mc {w : World} {g : Nat} {c : Cfg} {l : List S37} (h : Met w g c l) : MC w g c l.length (nChg l) (nFull l) (hiOf l) (fun k => sumR l k) (fun k => sumW l k) (fun k => mostOf l k) := ⟨h.ex⟩
theorem MC.frozen {w : World} {g : Nat} {c : Cfg} {n a b h : Int} {R W M : Nat → Int} (hm : MC w g c n a b h R W M) (j : Nat) : w.frozen? ⟨g, j, none⟩ = false := by
  obtain ⟨cs, h1, _⟩ := hm.ex
  exact blk_frozen h1 j
/-- A meter that has heard one op more. -/
theorem MC.met {w : World} {g : Nat} {c : Cfg} {l : List S37} {o : S37} {R W M : Nat → Int} {n a b h : Int} (hm : MC w g c n a b h R W M) (hh : Heard (l ++ [o])) (hl : l.length < 1048576)
    (en : n = (l.length : Int) + 1) (ea : a = nChg (l ++ [o])) (eb : b = nFull (l ++ [o])) (eh : h = hiOf (l ++ [o])) (eR : ∀ k : Nat, R k = sumR (l ++ [o]) k) (eW : ∀ k : Nat, W k = sumW (l ++ [o]) k) (eM : ∀ k : Nat, M k = mostOf (l ++ [o]) k) : Met w g c (l ++ [o]) := by
  subst en; subst ea; subst eb; subst eh
  obtain ⟨cs, h1, a0, a1, a2, a3, a4, a5, a6, a7, a8, a9, a10, a11, a12, ak⟩ := hm.ex
  refine ⟨⟨cs, h1, a0, a1, a2, a3, a4, a5, a6, a7, a8, ?_, a10, a11, a12, fun k hk => ?_⟩, hh, by simp; omega⟩
  · rw [a9]; simp
  · obtain ⟨x, y, z⟩ := ak k hk
    rw [← eR k, ← eW k, ← eM k]
    exact ⟨x, y, z⟩

theorem hear_none {w : World} {v : Value} (h : NoMet w v) (k : Int) (b : Bool) (x r s : Int) : Calls Try.prog 15 #[v, .int .i64 k, .bool b, .int .i64 x, .agg #[.int .u64 r, .int .u64 s]] w fun e w' => e = .returned (.int .i64 1) ∧ Below w.heap.size w w' := by
  have HB := Aside0.mk (below_alloc (Below.refl w.heap.size w) (.cells #[.int .u64 r, .int .u64 s] 35))
  have HN := Aside0.mk (none_no (h.below HB.out))
  clear h
  go_enter Try.func15, Try.ntmps15
  go_wp2_with fail
  refine HN.out.mono ?_
  rintro en w' ⟨rfl, rfl⟩
  go_wp2_with fail
  go_ret
  exact ⟨by simp, HB.out⟩

set_option maxHeartbeats 1000000 in
theorem hear_bad {w : World} {g : Nat} {c : Cfg} {l : List S37} (h : Met w g c l) (o : S37) (ho : ¬ May o) : Calls Try.prog 15 #[.pointer (some ⟨g, 0, none⟩), .int .i64 o.f0, .bool o.f1, .int .i64 o.f2, .agg #[.int .u64 o.f3.f0, .int .u64 o.f3.f1]] w fun e w' => e = .returned (.int .i64 2) ∧ Below w.heap.size w w' := by
  have HB := Aside0.mk (below_alloc (Below.refl w.heap.size w) (.cells #[.int .u64 o.f3.f0, .int .u64 o.f3.f1] 35))
  have HN := Aside0.mk (none_met (h.below HB.out))
  have HC := Aside0.mk (fun w => change_calls o.f0 w)
  unfold May at ho
  clear h
  obtain ⟨k, b, x, ⟨r, s⟩⟩ := o
  replace ho : ¬ (1 ≤ k ∧ k ≤ 7 ∧ 1 ≤ x ∧ x ≤ 41 ∧ (b = true → chg k = true) ∧ r ≤ 1099511627776 ∧ s ≤ 1099511627776) := ho
  replace HC : Aside0 (∀ w, Calls Try.prog 31 #[.int .i64 k] w fun e w' => e = .returned (.bool (chg k)) ∧ w = w') := HC
  have hcase : (decide (k < 1) = true) ∨ (decide (k < 1) = false ∧ decide (7 < k) = true) ∨ (decide (k < 1) = false ∧ decide (7 < k) = false ∧ decide (x < 1) = true) ∨ (decide (k < 1) = false ∧ decide (7 < k) = false ∧ decide (x < 1) = false ∧ decide (41 < x) = true) ∨
      (decide (k < 1) = false ∧ decide (7 < k) = false ∧ decide (x < 1) = false ∧ decide (41 < x) = false ∧ b = true ∧ chg k = false) ∨
      (decide (k < 1) = false ∧ decide (7 < k) = false ∧ decide (x < 1) = false ∧ decide (41 < x) = false ∧ (b = true → chg k = true) ∧ (decide (1099511627776 < r) = true ∨ decide (1099511627776 < r) = false ∧ decide (1099511627776 < s) = true)) := by
    by_cases q1 : k < 1
    · exact Or.inl (decide_eq_true q1)
    · by_cases q2 : 7 < k
      · exact Or.inr (Or.inl ⟨decide_eq_false q1, decide_eq_true q2⟩)
      · by_cases q3 : x < 1
        · exact Or.inr (Or.inr (Or.inl ⟨decide_eq_false q1, decide_eq_false q2, decide_eq_true q3⟩))
        · by_cases q4 : 41 < x
          · exact Or.inr (Or.inr (Or.inr (Or.inl ⟨decide_eq_false q1, decide_eq_false q2, decide_eq_false q3, decide_eq_true q4⟩)))
          · by_cases q5 : b = true → chg k = true
            · refine Or.inr (Or.inr (Or.inr (Or.inr (Or.inr ⟨decide_eq_false q1, decide_eq_false q2, decide_eq_false q3, decide_eq_false q4, q5, ?_⟩))))
              by_cases q6 : 1099511627776 < r
              · exact Or.inl (decide_eq_true q6)
              · refine Or.inr ⟨decide_eq_false q6, decide_eq_true ?_⟩
                by_cases q7 : 1099511627776 < s
                · exact q7
                · exact absurd ⟨by omega, by omega, by omega, by omega, q5, by omega, by omega⟩ ho
            · refine Or.inr (Or.inr (Or.inr (Or.inr (Or.inl ⟨decide_eq_false q1, decide_eq_false q2, decide_eq_false q3, decide_eq_false q4, ?_, ?_⟩))))
              · cases b
                · exact absurd (fun h => by cases h) q5
                · rfl
              · cases hk : chg k
                · rfl
                · exact absurd (fun _ => hk) q5
  clear ho
  rcases hcase with d1 | ⟨d1, d2⟩ | ⟨d1, d2, d3⟩ | ⟨d1, d2, d3, d4⟩ | ⟨d1, d2, d3, d4, rfl, d5⟩ | ⟨d1, d2, d3, d4, d5, d6⟩
  · go_enter Try.func15, Try.ntmps15
    go_wp2_with (go_at_call 29; refine HN.out.mono ?_; rintro e w' ⟨rfl, rfl⟩)
    go_ret
    exact ⟨by simp, HB.out⟩
  · go_enter Try.func15, Try.ntmps15
    go_wp2_with (go_at_call 29; refine HN.out.mono ?_; rintro e w' ⟨rfl, rfl⟩)
    go_ret
    exact ⟨by simp, HB.out⟩
  · go_enter Try.func15, Try.ntmps15
    go_wp2_with (go_at_call 29; refine HN.out.mono ?_; rintro e w' ⟨rfl, rfl⟩)
    go_ret
    exact ⟨by simp, HB.out⟩
  · go_enter Try.func15, Try.ntmps15
    go_wp2_with (go_at_call 29; refine HN.out.mono ?_; rintro e w' ⟨rfl, rfl⟩)
    go_ret
    exact ⟨by simp, HB.out⟩
  · rw [d5] at HC
    clear d5
    go_enter Try.func15, Try.ntmps15
    go_wp2_with (first | (go_at_call 29; refine HN.out.mono ?_; rintro e w' ⟨rfl, rfl⟩) | (go_at_call 31; refine (HC.out _).mono ?_; rintro e w' ⟨rfl, rfl⟩))
    go_ret
    exact ⟨by simp, HB.out⟩
  · cases b
    · clear d5
      rcases d6 with d6 | ⟨d6, d7⟩
      all_goals
        go_enter Try.func15, Try.ntmps15
        go_wp2_with (first | (go_at_call 29; refine HN.out.mono ?_; rintro e w' ⟨rfl, rfl⟩) | (go_at_call 31; refine (HC.out _).mono ?_; rintro e w' ⟨rfl, rfl⟩))
        go_ret
        exact ⟨by simp, HB.out⟩
    · rw [d5 rfl] at HC
      clear d5
      rcases d6 with d6 | ⟨d6, d7⟩
      all_goals
        go_enter Try.func15, Try.ntmps15
        go_wp2_with (first | (go_at_call 29; refine HN.out.mono ?_; rintro e w' ⟨rfl, rfl⟩) | (go_at_call 31; refine (HC.out _).mono ?_; rintro e w' ⟨rfl, rfl⟩))
        go_ret
        exact ⟨by simp, HB.out⟩
end Go.Proofs.Ytkpdcacfokcpnaa.Q
