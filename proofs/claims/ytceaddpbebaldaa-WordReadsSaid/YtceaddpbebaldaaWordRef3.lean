/- The reference's readers: Text. -/
import Derived.Test.YtceaddpbebaldaaWordRef2
namespace Go.Proofs.Ytceaddpbebaldaa.Word
open Go.RowKit Go.Proofs.YtceaddpbebaldaaW.PrintWords Go.Proofs.YtceaddpbebaldaaW.PrintLast Go.Proofs.YtceaddpbebaldaaW.PrintMore
open Go.Proofs.Ytceaddpbebaldaa Go.Proofs.Ytceaddpbebaldaa.Vals
set_option linter.unusedVariables false
set_option linter.unusedSimpArgs false

def TextPost2 (w : World) (bs : List Int) (e : Int) (s : ByteArray) (en : Ending) (w' : World) : Prop := ∃ v, en = .returned (.tuple #[.agg #[v, .int .i64 e], .string s]) ∧ Bys bs v w' ∧ Below w.heap.size w w'

theorem rtext_bad {w : World} {v : Value} {bs : List Int} (e : Int) (h : Bys bs v w) {n m : Int} (hn : n < 0 ∨ m < n) : Calls Try.prog 19 #[.agg #[v, .int .i64 e], .int .i64 n, .int .i64 m] w (TextPost2 w [] (spE e 2) ByteArray.empty) := by
  obtain ⟨A, c, rfl, hc, hC⟩ := h
  have HSP := Aside0.mk (fun w1 (hb : Below w.heap.size w w1) => rspoil_calls (w := w1) e 2 (show Bys bs (.slice A bs.length c) w1 from IsL.mk hc (Kd.C_below hC hb)))
  clear hC hc
  have hcase : (decide (n < 0) = true) ∨ (decide (n < 0) = false ∧ decide (m < n) = true) := by
    by_cases h1 : n < 0
    · exact Or.inl (decide_eq_true h1)
    · exact Or.inr ⟨decide_eq_false h1, decide_eq_true (hn.resolve_left h1)⟩
  clear hn
  rcases hcase with d1 | ⟨d1, d2⟩
  all_goals
    go_enter Try.func19, Try.ntmps19
    go_wp2_with fail
    refine (HSP.out _ (below2 w _ _)).mono ?_
    rintro en w3 ⟨v3, rfl, ⟨A3, c3, rfl, hc3, hC3⟩, hb⟩
    have H2 := Aside0.mk (blk_below (two_blk w _ _).2 hb)
    have HI := Aside0.mk (show Bys [] (.slice A3 0 c3) w3 from ⟨A3, c3, rfl, hc3, hC3⟩)
    have HB := Aside0.mk (below_step (below2 w _ _) hb)
    clear hb hc3 hC3
    rw [List.length_nil]
    have k0 := (blk_cell H2.out 0).trans rfl
    have k1 := (blk_cell H2.out 1).trans rfl
    have f0 := blk_frozen H2.out 0
    have f1 := blk_frozen H2.out 1
    have HW := box_put H2.out (.slice A3 0 c3) (.int .i64 (spE e 2))
    go_wp2_with fail
    refine bodyPost_ret (results_ct rfl _ _ (w.heap.size + 1) 41 #[.slice A3 0 c3, .int .i64 (spE e 2)] (0, 0) _ rfl HW.1 Try.underlying41 rfl (by kernel_rfl)) rfl ⟨_, rfl, IsL.empty HI.out _, ?_⟩
    exact Keeps.below_then HB.out (Nat.le_refl _) HW.2 (fun i hi => by have : i = w.heap.size + 1 := hi; omega)

/-- What a text's reading leaves: where the error stands; where other bytes than noughts are behind it; where all is right. -/
theorem text_cases (out bs' : List Int) (e' : Int) (n m : Nat) (h : e' ≠ 0 ∧ out = [] ∨ e' = 0 ∧ out.length = m) :
    (e' ≠ 0 ∧ textB out bs' n m = bs' ∧ textE out e' n m = e' ∧ textS out n m = ByteArray.empty) ∨
    (e' = 0 ∧ out.length = m ∧ (out.drop n).any (fun c => c != 0) = true ∧ textB out bs' n m = [] ∧ textE out e' n m = 3 ∧ textS out n m = ByteArray.empty) ∨
    (e' = 0 ∧ out.length = m ∧ (out.drop n).any (fun c => c != 0) = false ∧ textB out bs' n m = bs' ∧ textE out e' n m = 0 ∧ textS out n m = strOfNums (out.take n)) := by
  unfold textB textE textS
  rcases h with ⟨he, rfl⟩ | ⟨rfl, hl⟩
  · left
    refine ⟨he, ?_⟩
    by_cases hm : ([] : List Int).length < m
    · rw [if_pos hm, if_pos hm, if_pos hm]; exact ⟨rfl, rfl, rfl⟩
    · rw [if_neg hm, if_neg hm, if_neg hm]
      simp
      rfl
  · right
    have hm : ¬ out.length < m := by omega
    rw [if_neg hm, if_neg hm, if_neg hm]
    by_cases ha : (out.drop n).any (fun c => c != 0) = true
    · left
      rw [if_pos ha, if_pos ha, if_pos ha]
      exact ⟨rfl, hl, ha, rfl, rfl, rfl⟩
    · right
      rw [if_neg ha, if_neg ha, if_neg ha]
      exact ⟨rfl, hl, by simpa using ha, rfl, rfl, rfl⟩
theorem raw_cases (bs : List Int) (e : Int) (m : Nat) : rawE bs e m ≠ 0 ∧ rawO bs e m = [] ∨ rawE bs e m = 0 ∧ (rawO bs e m).length = m := by
  unfold rawE rawO
  by_cases he : e ≠ 0
  · rw [if_pos he, if_pos he]; exact Or.inl ⟨he, rfl⟩
  · rw [if_neg he, if_neg he]
    have h1 : ¬ ((m : Int) < 0) := by omega
    rw [if_neg h1, if_neg h1]
    by_cases h2 : (bs.length : Int) < (m : Int)
    · rw [if_pos h2, if_pos h2]; exact Or.inl ⟨by decide, rfl⟩
    · rw [if_neg h2, if_neg h2, Int.toNat_natCast]
      exact Or.inr ⟨rfl, by rw [List.length_take]; omega⟩

set_option maxHeartbeats 1000000 in
theorem rtext_ok {w : World} {v : Value} {bs : List Int} (e : Int) (h : Bys bs v w) (hl : bs.length ≤ 140737488351232) {n m : Nat} (hn : n ≤ m) : Calls Try.prog 19 #[.agg #[v, .int .i64 e], .int .i64 (n : Int), .int .i64 (m : Int)] w
    (TextPost2 w (textB (rawO bs e m) (rawB bs e m) n m) (textE (rawO bs e m) (rawE bs e m) n m) (textS (rawO bs e m) n m)) := by
  have hcs := text_cases (rawO bs e m) (rawB bs e m) (rawE bs e m) n m (raw_cases bs e m)
  have hol : (rawO bs e m).length ≤ 140737488351232 := by
    unfold rawO
    repeat' split
    all_goals first | (simp; done) | (simp; omega)
  obtain ⟨A, c, rfl, hc, hC⟩ := h
  have HRAW := Aside0.mk (fun w1 (hb : Below w.heap.size w w1) => rraw_calls (w := w1) e (show Bys bs (.slice A bs.length c) w1 from IsL.mk hc (Kd.C_below hC hb)) m)
  have d1 : decide ((n : Int) < 0) = false := decide_eq_false (by omega)
  have d2 : decide ((m : Int) < (n : Int)) = false := decide_eq_false (by omega)
  have d3 : decide (m < n) = false := decide_eq_false (by omega)
  clear hC hc
  obtain ⟨tb, htb⟩ : ∃ tb, textB (rawO bs e m) (rawB bs e m) n m = tb := ⟨_, rfl⟩
  obtain ⟨te, hte⟩ : ∃ te, textE (rawO bs e m) (rawE bs e m) n m = te := ⟨_, rfl⟩
  obtain ⟨ts, hts⟩ : ∃ ts, textS (rawO bs e m) n m = ts := ⟨_, rfl⟩
  rw [htb, hte, hts] at hcs ⊢
  clear htb hte hts
  generalize rawO bs e m = out at *
  generalize rawB bs e m = bs' at *
  generalize rawE bs e m = e' at *
  rcases hcs with ⟨he, q1, q2, q3⟩ | ⟨he, hlen, hany, q1, q2, q3⟩ | ⟨he, hlen, hany, q1, q2, q3⟩
  · rw [q1, q2, q3]
    clear q1 q2 q3
    have e1 : (e' != 0) = true := by simp [he]
    go_enter Try.func19, Try.ntmps19
    go_wp2_with fail
    refine (HRAW.out _ (below2 w _ _)).mono ?_
    rintro en w3 ⟨v3, v4, rfl, ⟨A3, c3, rfl, hc3, hC3⟩, ⟨A4, c4, rfl, hc4, hC4⟩, hb⟩
    have H1 := Aside0.mk (blk_below (two_blk w _ _).1 hb)
    have H2 := Aside0.mk (blk_below (two_blk w _ _).2 hb)
    have HI := Aside0.mk (show Bys bs' (.slice A3 bs'.length c3) w3 from ⟨A3, c3, rfl, hc3, hC3⟩)
    have HO := Aside0.mk (show Bys out (.slice A4 out.length c4) w3 from ⟨A4, c4, rfl, hc4, hC4⟩)
    have HB := Aside0.mk (below_step (below2 w _ _) hb)
    clear hb hc3 hC3 hc4 hC4 HRAW
    have k0 := (blk_cell H1.out 0).trans rfl
    have k1 := (blk_cell H1.out 1).trans rfl
    have f0 := blk_frozen H1.out 0
    have f1 := blk_frozen H1.out 1
    have HW := box_put H1.out (.slice A3 bs'.length c3) (.int .i64 e')
    have HN1 := Aside0.mk (NoByte.pair H1.out)
    have hk2 := (blk_cell H2.out 0).trans rfl
    have hk3 := (blk_cell H2.out 1).trans rfl
    have f2 := blk_frozen H2.out 0
    have f3 := blk_frozen H2.out 1
    have HW2 := fun (w4 : World) (h : w4.heap[w.heap.size + 1]? = some (.cells #[.slice none 0 0, .int .i64 0] 41 (0, 0))) => box_put h (.slice A3 bs'.length c3) (.int .i64 e')
    have HW2 := Aside0.mk HW2
    have HW := Aside0.mk HW
    go_wp2_with fail
    obtain ⟨h1, hk⟩ := HW.out
    have hi := Bys.far HI.out hk (fun k h => by subst h; exact HN1.out)
    have h2 := hk.blk H2.out (show ¬ (w.heap.size + 1 = w.heap.size) by omega)
    have hb := Keeps.below_then HB.out (Nat.le_refl _) hk (fun i hi => by have : i = w.heap.size := hi; omega)
    have hw := HW2.out _ h2
    refine bodyPost_ret (results_ct rfl _ _ (w.heap.size + 1) 41 #[.slice A3 bs'.length c3, .int .i64 e'] (0, 0) _ rfl hw.1 Try.underlying41 rfl (by kernel_rfl)) rfl ⟨_, rfl, ?_, ?_⟩
    · exact Bys.far hi hw.2 (fun k h => by subst h; exact NoByte.pair h2)
    · exact Keeps.below_then hb (Nat.le_refl _) hw.2 (fun i hi => by have : i = w.heap.size + 1 := hi; omega)
  · subst he
    rw [q1, q2, q3]
    clear q1 q2 q3
    have HLEN := Aside0.mk hlen
    clear hlen
    go_enter Try.func19, Try.ntmps19
    go_wp2_with fail
    refine (HRAW.out _ (below2 w _ _)).mono ?_
    rintro en w3 ⟨v3, v4, rfl, ⟨A3, c3, rfl, hc3, hC3⟩, ⟨A4, c4, rfl, hc4, hC4⟩, hb⟩
    have H1 := Aside0.mk (blk_below (two_blk w _ _).1 hb)
    have H2 := Aside0.mk (blk_below (two_blk w _ _).2 hb)
    have HI := Aside0.mk (show Bys bs' (.slice A3 bs'.length c3) w3 from ⟨A3, c3, rfl, hc3, hC3⟩)
    have HO := Aside0.mk (show Bys out (.slice A4 out.length c4) w3 from ⟨A4, c4, rfl, hc4, hC4⟩)
    have HB := Aside0.mk (below_step (below2 w _ _) hb)
    obtain ⟨hct, HT, A5, hcd, HD⟩ := cut_bytes (A := A4) (c := c4) (m := n) hC4 hc4 (by have := HLEN.out; omega)
    have HT := Aside0.mk HT
    have HD := Aside0.mk HD
    clear hb hc3 hC3 hc4 hC4 HRAW
    have k0 := (blk_cell H1.out 0).trans rfl
    have k1 := (blk_cell H1.out 1).trans rfl
    have f0 := blk_frozen H1.out 0
    have f1 := blk_frozen H1.out 1
    have HW := box_put H1.out (.slice A3 bs'.length c3) (.int .i64 0)
    have HN1 := Aside0.mk (NoByte.pair H1.out)
    go_wp2_with fail
    clear k0 k1 f0 f1
    generalize (w3.setCell ⟨w.heap.size, 0, none⟩ (.slice A3 bs'.length c3)).setCell ⟨w.heap.size, 1, none⟩ (.int .i64 0) = w4 at HW ⊢
    obtain ⟨h1, hk⟩ := HW
    have hi := Bys.far HI.out hk (fun k h => by subst h; exact HN1.out)
    have ho := Bys.far HT.out hk (fun k h => by subst h; exact HN1.out)
    have hd := Bys.far HD.out hk (fun k h => by subst h; exact HN1.out)
    have h2 := hk.blk H2.out (show ¬ (w.heap.size + 1 = w.heap.size) by omega)
    have hb := Keeps.below_then HB.out (Nat.le_refl _) hk (fun i hi => by have : i = w.heap.size := hi; omega)
    have H1 := Aside0.mk h1
    have H2 := Aside0.mk h2
    have HI := Aside0.mk hi
    have HT := Aside0.mk ho
    have HB := Aside0.mk hb
    have hz := rzeros_calls hd (by rw [List.length_drop]; omega)
    rw [show zerosB (out.drop n) = false from by unfold zerosB; rw [hany]; rfl] at hz
    have HZ := Aside0.mk hz
    clear h1 h2 hi ho hb hk hd hz hcd hct HT
    refine HZ.out.mono ?_
    rintro en w5 ⟨rfl, hb⟩
    have H1 := Aside0.mk (blk_below H1.out hb)
    have H2 := Aside0.mk (blk_below H2.out hb)
    have HI := Aside0.mk (HI.out.mono hb)
    have HB := Aside0.mk (below_step HB.out hb)
    clear hb hany
    have k0 := (blk_cell H1.out 0).trans rfl
    have k1 := (blk_cell H1.out 1).trans rfl
    have HSP := Aside0.mk (rspoil_calls 0 3 HI.out)
    go_wp2_with fail
    refine HSP.out.mono ?_
    rintro en w6 ⟨v6, rfl, ⟨A6, c6, rfl, hc6, hC6⟩, hb⟩
    have H2 := Aside0.mk (blk_below H2.out hb)
    have HI := Aside0.mk (show Bys [] (.slice A6 0 c6) w6 from ⟨A6, c6, rfl, hc6, hC6⟩)
    have HB := Aside0.mk (below_step HB.out hb)
    clear hb hc6 hC6 k0 k1
    rw [List.length_nil, show spE 0 3 = 3 from rfl]
    have k0 := (blk_cell H2.out 0).trans rfl
    have k1 := (blk_cell H2.out 1).trans rfl
    have f0 := blk_frozen H2.out 0
    have f1 := blk_frozen H2.out 1
    have HW := box_put H2.out (.slice A6 0 c6) (.int .i64 3)
    go_wp2_with fail
    refine bodyPost_ret (results_ct rfl _ _ (w.heap.size + 1) 41 #[.slice A6 0 c6, .int .i64 3] (0, 0) _ rfl HW.1 Try.underlying41 rfl (by kernel_rfl)) rfl ⟨_, rfl, IsL.empty HI.out _, ?_⟩
    exact Keeps.below_then HB.out (Nat.le_refl _) HW.2 (fun i hi => by have : i = w.heap.size + 1 := hi; omega)
  · subst he
    rw [q1, q2, q3]
    clear q1 q2 q3
    have HLEN := Aside0.mk hlen
    clear hlen
    go_enter Try.func19, Try.ntmps19
    go_wp2_with fail
    refine (HRAW.out _ (below2 w _ _)).mono ?_
    rintro en w3 ⟨v3, v4, rfl, ⟨A3, c3, rfl, hc3, hC3⟩, ⟨A4, c4, rfl, hc4, hC4⟩, hb⟩
    have H1 := Aside0.mk (blk_below (two_blk w _ _).1 hb)
    have H2 := Aside0.mk (blk_below (two_blk w _ _).2 hb)
    have HI := Aside0.mk (show Bys bs' (.slice A3 bs'.length c3) w3 from ⟨A3, c3, rfl, hc3, hC3⟩)
    have HO := Aside0.mk (show Bys out (.slice A4 out.length c4) w3 from ⟨A4, c4, rfl, hc4, hC4⟩)
    have HB := Aside0.mk (below_step (below2 w _ _) hb)
    obtain ⟨hct, HT, A5, hcd, HD⟩ := cut_bytes (A := A4) (c := c4) (m := n) hC4 hc4 (by have := HLEN.out; omega)
    have HT := Aside0.mk HT
    have HD := Aside0.mk HD
    clear hb hc3 hC3 hc4 hC4 HRAW
    have k0 := (blk_cell H1.out 0).trans rfl
    have k1 := (blk_cell H1.out 1).trans rfl
    have f0 := blk_frozen H1.out 0
    have f1 := blk_frozen H1.out 1
    have HW := box_put H1.out (.slice A3 bs'.length c3) (.int .i64 0)
    have HN1 := Aside0.mk (NoByte.pair H1.out)
    go_wp2_with fail
    clear k0 k1 f0 f1
    generalize (w3.setCell ⟨w.heap.size, 0, none⟩ (.slice A3 bs'.length c3)).setCell ⟨w.heap.size, 1, none⟩ (.int .i64 0) = w4 at HW ⊢
    obtain ⟨h1, hk⟩ := HW
    have hi := Bys.far HI.out hk (fun k h => by subst h; exact HN1.out)
    have ho := Bys.far HT.out hk (fun k h => by subst h; exact HN1.out)
    have hd := Bys.far HD.out hk (fun k h => by subst h; exact HN1.out)
    have h2 := hk.blk H2.out (show ¬ (w.heap.size + 1 = w.heap.size) by omega)
    have hb := Keeps.below_then HB.out (Nat.le_refl _) hk (fun i hi => by have : i = w.heap.size := hi; omega)
    have H1 := Aside0.mk h1
    have H2 := Aside0.mk h2
    have HI := Aside0.mk hi
    have HT := Aside0.mk ho
    have HB := Aside0.mk hb
    have hz := rzeros_calls hd (by rw [List.length_drop]; omega)
    rw [show zerosB (out.drop n) = true from by unfold zerosB; rw [hany]; rfl] at hz
    have HZ := Aside0.mk hz
    clear h1 h2 hi ho hb hk hd hz hcd
    refine HZ.out.mono ?_
    rintro en w5 ⟨rfl, hb⟩
    have H1 := Aside0.mk (blk_below H1.out hb)
    have H2 := Aside0.mk (blk_below H2.out hb)
    have HI := Aside0.mk (HI.out.mono hb)
    have HT := Aside0.mk (HT.out.mono hb)
    have HB := Aside0.mk (below_step HB.out hb)
    clear hb hany
    have k0 := (blk_cell H1.out 0).trans rfl
    have k1 := (blk_cell H1.out 1).trans rfl
    have k2 := (blk_cell H2.out 0).trans rfl
    have k3 := (blk_cell H2.out 1).trans rfl
    have f2 := blk_frozen H2.out 0
    have f3 := blk_frozen H2.out 1
    have HW := box_put H2.out (.slice A3 bs'.length c3) (.int .i64 0)
    have s1 := run_str (w := w5.drew) (IsL.mono HT.out (pw_below_drewN (Below.refl _ _) 1))
    have s2 := run_str (w := ((w5.setCell ⟨w.heap.size + 1, 0, none⟩ (.slice A3 bs'.length c3)).setCell ⟨w.heap.size + 1, 1, none⟩ (.int .i64 0)).drew) (IsL.mono (Bys.far HT.out HW.2 (fun k h => by subst h; exact NoByte.pair H2.out)) (pw_below_drewN (Below.refl _ _) 1))
    have HW := Aside0.mk HW
    go_wp2_with fail
    go_region
    all_goals
      go_wp2_with fail
      refine bodyPost_ret (results_ct rfl _ _ (w.heap.size + 1) 41 #[.slice A3 bs'.length c3, .int .i64 0] (0, 0) _ rfl (blk_drewN HW.out.1 1) Try.underlying41 rfl (by kernel_rfl)) rfl ⟨_, rfl, ?_, ?_⟩
      · exact IsL.mono (Bys.far HI.out HW.out.2 (fun k h => by subst h; exact NoByte.pair H2.out)) (pw_below_drewN (Below.refl _ _) 1)
      · exact pw_below_drewN (Keeps.below_then HB.out (Nat.le_refl _) HW.out.2 (fun i hi => by have : i = w.heap.size + 1 := hi; omega)) 1
end Go.Proofs.Ytceaddpbebaldaa.Word
