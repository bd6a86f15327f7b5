/- The reference's functions of ops, as contracts. -/
import Derived.Test.YtkpdcacfokcpnaaMeterAwake
namespace Go.Proofs.Ytkpdcacfokcpnaa.Q
open Go.RowKit Go.Proofs.YtkpdcacfokcpnaaW.PrintWords Go.Proofs.YtkpdcacfokcpnaaW.PrintLast Go.Proofs.YtkpdcacfokcpnaaW.PrintMore
open Go.Proofs.Ytkpdcacfokcpnaa Go.Proofs.Ytkpdcacfokcpnaa.Vals
set_option linter.unusedVariables false
set_option linter.unusedSimpArgs false

theorem rchange_is (k : Int) : sluicegateref29_change.f k = some (chg k) := by
  unfold sluicegateref29_change.f chg
  by_cases h : k = 1
  · rw [if_pos h]; simp [h]
  · rw [if_neg h]; simp [h]
theorem rmay_is (o : S37) : sluicegateref29_May.f o.f0 o.f1 o.f2 o.f3.f0 o.f3.f1 = some (decide (May o)) := by
  unfold sluicegateref29_May.f
  by_cases h1 : o.f0 ≥ 1
  · rw [if_pos h1]
    by_cases h2 : o.f0 ≤ 7
    · rw [if_pos h2]
      by_cases h3 : o.f2 ≥ 1
      · rw [if_pos h3]
        by_cases h4 : o.f2 ≤ 41
        · rw [if_pos h4, rchange_is]
          simp only [Option.bind_some]
          have hend : (∀ b : Prop, (o.f1 = true → chg o.f0 = true) → (if o.f3.f0 ≤ 1099511627776 then some (decide (o.f3.f1 ≤ 1099511627776)) else some false) = some (decide (May o))) := by
            intro _ h5
            by_cases h6 : o.f3.f0 ≤ 1099511627776
            · rw [if_pos h6]
              congr 1
              rw [decide_eq_decide]
              exact ⟨fun h => ⟨h1, h2, h3, h4, h5, h6, h⟩, fun h => h.2.2.2.2.2.2⟩
            · rw [if_neg h6, decide_eq_false (fun h : May o => h6 h.2.2.2.2.2.1)]
          by_cases hb : o.f1 = true
          · rw [if_pos hb]
            by_cases hc : chg o.f0 = true
            · rw [if_pos hc]
              exact hend True (fun _ => hc)
            · rw [if_neg hc, decide_eq_false (fun h : May o => hc (h.2.2.2.2.1 hb))]
          · rw [if_neg hb]
            exact hend True (fun h => absurd h hb)
        · rw [if_neg h4, decide_eq_false (fun h : May o => h4 h.2.2.2.1)]
      · rw [if_neg h3, decide_eq_false (fun h : May o => h3 h.2.2.1)]
    · rw [if_neg h2, decide_eq_false (fun h : May o => h2 h.2.1)]
  · rw [if_neg h1, decide_eq_false (fun h : May o => h1 h.1)]
theorem rmay_calls (o : S37) (w : World) : Calls Try.prog 16 #[.agg #[.int .i64 o.f0, .bool o.f1, .int .i64 o.f2, .int .u64 o.f3.f0, .int .u64 o.f3.f1]] w fun e w' => e = .returned (.bool (decide (May o))) ∧ Below w.heap.size w w' :=
  sluicegateref29_May.calls _ _ _ _ _ _ w (rmay_is o)

theorem rdT {l : List S37} {i : Nat} (h : i < l.length) : rd_T37 l (i : Int) = l[i] := by
  unfold rd_T37
  rw [Int.toNat_natCast, List.getD_eq_getElem?_getD, List.getElem?_eq_getElem h]
  rfl
theorem wi {i : Nat} (h : i < 1152921504606846976) : wrap64 ((i : Int) + 1) = ((i + 1 : Nat) : Int) := by
  rw [w64 (by omega) (by omega)]; omega
theorem Heard.take {l : List S37} (h : Heard l) (i : Nat) : Heard (l.take i) := fun o ho => h o (List.mem_of_mem_take ho)

theorem rchanges_l0 (l : List S37) (hh : Heard l) (hl : l.length ≤ 1048576) : ∀ (n i k : Nat), i + n = l.length → 2 * n < k → sluicegateref29_Changes.l0 k l (nChg (l.take i)) (nFull (l.take i)) (hiOf (l.take i)) (i : Int) = some (nChg l, nFull l, hiOf l) := by
  intro n
  induction n with
  | zero =>
    intro i k hi hk
    obtain ⟨k, rfl⟩ : ∃ m, k = m + 1 := ⟨k - 1, by omega⟩
    simp only [sluicegateref29_Changes.l0]
    rw [if_neg (by omega), List.take_of_length_le (by omega)]
  | succ n ih =>
    intro i k hi hk
    obtain ⟨k, rfl⟩ : ∃ m, k = m + 2 := ⟨k - 2, by omega⟩
    have hlt : i < l.length := by omega
    have hnext := ih (i + 1) k (by omega) (by omega)
    rw [List.take_succ_eq_append_getElem hlt, nChg_snoc, nFull_snoc, hiOf_snoc] at hnext
    obtain ⟨⟨b1, b2⟩, ⟨b3, b4⟩, _⟩ := heard_bd (l.take i) (hh.take i)
    have hlen : (l.take i).length ≤ i := List.length_take_le _ _
    simp only [sluicegateref29_Changes.l0, sluicegateref29_Changes.j1]
    rw [if_pos (show (i : Int) < (l.length : Int) by omega), if_pos (show (0 : Int) ≤ (i : Int) by omega), rdT hlt, rchange_is]
    simp only [Option.bind_some]
    have hw1 : wrap64 (nChg (l.take i) + 1) = nChg (l.take i) + 1 := w64 (by omega) (by omega)
    have hw2 : wrap64 (nFull (l.take i) + 1) = nFull (l.take i) + 1 := w64 (by omega) (by omega)
    rw [hw1, hw2, wi (show i < 1152921504606846976 by omega)]
    by_cases hc : chg (l[i]).f0 = true
    · rw [if_pos hc] at hnext
      rw [if_pos hc]
      by_cases hb : (l[i]).f1 = true
      · rw [if_pos hb] at hnext
        rw [if_pos hb]
        by_cases hx : (l[i]).f2 > hiOf (l.take i)
        · rw [if_pos hx] at hnext ⊢; rw [if_pos (show (0 : Int) ≤ (i : Int) by omega), if_pos (show (i : Int) < (l.length : Int) by omega)]; exact hnext
        · rw [if_neg hx] at hnext ⊢; rw [if_pos (show (0 : Int) ≤ (i : Int) by omega), if_pos (show (i : Int) < (l.length : Int) by omega)]; exact hnext
      · rw [if_neg hb] at hnext
        rw [if_neg hb]
        by_cases hx : (l[i]).f2 > hiOf (l.take i)
        · rw [if_pos hx] at hnext ⊢; rw [if_pos (show (0 : Int) ≤ (i : Int) by omega), if_pos (show (i : Int) < (l.length : Int) by omega)]; exact hnext
        · rw [if_neg hx] at hnext ⊢; rw [if_pos (show (0 : Int) ≤ (i : Int) by omega), if_pos (show (i : Int) < (l.length : Int) by omega)]; exact hnext
    · rw [if_neg hc] at hnext
      rw [if_neg hc]
      by_cases hb : (l[i]).f1 = true
      · rw [if_pos hb] at hnext
        rw [if_pos hb]
        by_cases hx : (l[i]).f2 > hiOf (l.take i)
        · rw [if_pos hx] at hnext ⊢; rw [if_pos (show (0 : Int) ≤ (i : Int) by omega), if_pos (show (i : Int) < (l.length : Int) by omega)]; exact hnext
        · rw [if_neg hx] at hnext ⊢; rw [if_pos (show (0 : Int) ≤ (i : Int) by omega), if_pos (show (i : Int) < (l.length : Int) by omega)]; exact hnext
      · rw [if_neg hb] at hnext
        rw [if_neg hb]
        by_cases hx : (l[i]).f2 > hiOf (l.take i)
        · rw [if_pos hx] at hnext ⊢; rw [if_pos (show (0 : Int) ≤ (i : Int) by omega), if_pos (show (i : Int) < (l.length : Int) by omega)]; exact hnext
        · rw [if_neg hx] at hnext ⊢; rw [if_pos (show (0 : Int) ≤ (i : Int) by omega), if_pos (show (i : Int) < (l.length : Int) by omega)]; exact hnext
theorem rsum_l0 (l : List S37) (hh : Heard l) (hl : l.length ≤ 1048576) (q : Int) : ∀ (n i k : Nat), i + n = l.length → n < k → sluicegateref29_Sum.l0 k l q (i : Int) (sumR (l.take i) q) (sumW (l.take i) q) = some (sumR l q, sumW l q) := by
  intro n
  induction n with
  | zero =>
    intro i k hi hk
    obtain ⟨k, rfl⟩ : ∃ m, k = m + 1 := ⟨k - 1, by omega⟩
    simp only [sluicegateref29_Sum.l0]
    rw [if_neg (by omega), List.take_of_length_le (by omega)]
  | succ n ih =>
    intro i k hi hk
    obtain ⟨k, rfl⟩ : ∃ m, k = m + 1 := ⟨k - 1, by omega⟩
    have hlt : i < l.length := by omega
    have hnext := ih (i + 1) k (by omega) (by omega)
    rw [List.take_succ_eq_append_getElem hlt, sumR_snoc, sumW_snoc] at hnext
    obtain ⟨⟨b1, b2⟩, ⟨b3, b4⟩, _⟩ := sum_bd q (l.take i) (hh.take i)
    have hlen : (l.take i).length ≤ i := List.length_take_le _ _
    obtain ⟨hm, h0, h1⟩ := hh _ (List.getElem_mem hlt)
    unfold May at hm
    simp only [sluicegateref29_Sum.l0]
    rw [if_pos (show (i : Int) < (l.length : Int) by omega), if_pos (show (0 : Int) ≤ (i : Int) by omega), rdT hlt, wi (show i < 1152921504606846976 by omega)]
    by_cases hc : (l[i]).f0 = q
    · rw [if_pos hc, if_pos hc] at hnext
      rw [if_pos hc, u64w (by omega) (by omega), u64w (by omega) (by omega)]
      exact hnext
    · rw [if_neg hc, if_neg hc] at hnext
      rw [if_neg hc]
      exact hnext
theorem rmost_l0 (l : List S37) (hh : Heard l) (hl : l.length ≤ 1048576) (q : Int) : ∀ (n i k : Nat), i + n = l.length → n < k → sluicegateref29_Most.l0 k l q (mostOf (l.take i) q) (i : Int) = some (mostOf l q) := by
  intro n
  induction n with
  | zero =>
    intro i k hi hk
    obtain ⟨k, rfl⟩ : ∃ m, k = m + 1 := ⟨k - 1, by omega⟩
    simp only [sluicegateref29_Most.l0]
    rw [if_neg (by omega), List.take_of_length_le (by omega)]
  | succ n ih =>
    intro i k hi hk
    obtain ⟨k, rfl⟩ : ∃ m, k = m + 1 := ⟨k - 1, by omega⟩
    have hlt : i < l.length := by omega
    have hnext := ih (i + 1) k (by omega) (by omega)
    rw [List.take_succ_eq_append_getElem hlt, mostOf_snoc] at hnext
    obtain ⟨hm, h0, h1⟩ := hh _ (List.getElem_mem hlt)
    unfold May at hm
    simp only [sluicegateref29_Most.l0]
    rw [if_pos (show (i : Int) < (l.length : Int) by omega), if_pos (show (0 : Int) ≤ (i : Int) by omega), rdT hlt, wi (show i < 1152921504606846976 by omega), u64w (x := (l[i]).f3.f0 + (l[i]).f3.f1) (by omega) (by omega)]
    by_cases hc : (l[i]).f0 = q
    · rw [if_pos hc] at hnext
      rw [if_pos hc]
      by_cases hx : (l[i]).f3.f0 + (l[i]).f3.f1 > mostOf (l.take i) q
      · rw [if_pos hx] at hnext ⊢; exact hnext
      · rw [if_neg hx] at hnext ⊢; exact hnext
    · rw [if_neg hc] at hnext
      rw [if_neg hc]
      exact hnext

abbrev Ops := IsL k37
theorem rchanges_calls {w : World} {v : Value} {l : List S37} (h : Ops l v w) (hh : Heard l) (hl : l.length ≤ 1048576) : Calls Try.prog 18 #[v] w fun e w' => e = .returned (.tuple #[.int .i64 (nChg l), .int .i64 (nFull l), .int .i64 (hiOf l)]) ∧ Below w.heap.size w w' := by
  obtain ⟨A, c, rfl, hc, hC⟩ := h
  refine (sluicegateref29_Changes.calls (2 * l.length + 1) A c l (nChg l) (nFull l) (hiOf l) w hC hc ?_).mono ?_
  · unfold sluicegateref29_Changes.f
    have := rchanges_l0 l hh hl l.length 0 (2 * l.length + 1) (by omega) (by omega)
    simpa [nChg, nFull, hiOf] using this
  · rintro e w' ⟨rfl, hd⟩
    obtain ⟨k, rfl⟩ := hd.out
    exact ⟨rfl, pw_below_drewN (Below.refl _ _) k⟩
theorem rsum_calls {w : World} {v : Value} {l : List S37} (h : Ops l v w) (hh : Heard l) (hl : l.length ≤ 1048576) (q : Int) : Calls Try.prog 19 #[v, .int .i64 q] w fun e w' => e = .returned (.agg #[.int .u64 (sumR l q), .int .u64 (sumW l q)]) ∧ Below w.heap.size w w' := by
  obtain ⟨A, c, rfl, hc, hC⟩ := h
  refine sluicegateref29_Sum.calls (l.length + 1) A c l q (sumR l q) (sumW l q) w hC hc ?_
  unfold sluicegateref29_Sum.f
  have := rsum_l0 l hh hl q l.length 0 (l.length + 1) (by omega) (by omega)
  simpa [sumR, sumW] using this
theorem rmost_calls {w : World} {v : Value} {l : List S37} (h : Ops l v w) (hh : Heard l) (hl : l.length ≤ 1048576) (q : Int) : Calls Try.prog 21 #[v, .int .i64 q] w fun e w' => e = .returned (.int .u64 (mostOf l q)) ∧ Below w.heap.size w w' := by
  obtain ⟨A, c, rfl, hc, hC⟩ := h
  refine (sluicegateref29_Most.calls (l.length + 1) A c l q (mostOf l q) w hC hc ?_).mono ?_
  · unfold sluicegateref29_Most.f
    have := rmost_l0 l hh hl q l.length 0 (l.length + 1) (by omega) (by omega)
    simpa [mostOf] using this
  · rintro e w' ⟨rfl, hd⟩
    obtain ⟨k, rfl⟩ := hd.out
    exact ⟨rfl, pw_below_drewN (Below.refl _ _) k⟩

theorem sum_out {l : List S37} (hh : Heard l) {q : Int} (hq : ¬ (0 ≤ q ∧ q ≤ 7)) : sumR l q = 0 ∧ sumW l q = 0 ∧ mostOf l q = 0 := by
  revert hh
  refine snoc_ind (P := fun l => Heard l → sumR l q = 0 ∧ sumW l q = 0 ∧ mostOf l q = 0) (fun _ => ⟨rfl, rfl, rfl⟩) (fun l o ih h => ?_) l
  obtain ⟨h1, h2, _⟩ := h.front
  unfold May at h2
  have hne : ¬ o.f0 = q := by omega
  rw [sumR_snoc, sumW_snoc, mostOf_snoc, if_neg hne, if_neg hne, if_neg hne]
  exact ih h1
/-- What a meter has of a kind is what the document has. -/
theorem k_is {l : List S37} (hh : Heard l) (q : Int) : kR l q = sumR l q ∧ kW l q = sumW l q ∧ kM l q = mostOf l q := by
  unfold kR kW kM
  by_cases hq : 0 ≤ q ∧ q ≤ 7
  · rw [if_pos hq, if_pos hq, if_pos hq]; exact ⟨rfl, rfl, rfl⟩
  · rw [if_neg hq, if_neg hq, if_neg hq]
    obtain ⟨a, b, c⟩ := sum_out hh hq
    exact ⟨a.symm, b.symm, c.symm⟩
end Go.Proofs.Ytkpdcacfokcpnaa.Q
