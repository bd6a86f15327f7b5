/- The law MixEach. -/
import Derived.Test.YtcdgenoakpmlbaaMixBack
import Derived.Test.YtcdgenoakpmlbaaReg
import Derived.IntWalk
namespace Go.Proofs.Ytcdgenoakpmlbaa.Mix
open Go.RowKit Go.Proofs.YtcdgenoakpmlbaaW.PrintWords Go.Proofs.YtcdgenoakpmlbaaW.PrintLast Go.Proofs.YtcdgenoakpmlbaaW.PrintMore
open Go.Proofs.Ytcdgenoakpmlbaa Go.Proofs.Ytcdgenoakpmlbaa.Vals Go.Proofs.Ytcdgenoakpmlbaa.Q Go.Proofs.Ytcdgenoakpmlbaa.U
set_option linter.unusedVariables false
set_option linter.unusedSimpArgs false

theorem back2_cb {w0 : World} {Z S c stop : Nat} {A : Option Addr} {rows : List (List S32)} (X Y : Nat) (hX : w0.heap.size ≤ X) (hY : w0.heap.size ≤ Y)
    (hZ : w0.heap[Z]? = some (.cells #[.slice A rows.length c] 22 (0, 0))) (hS : w0.heap[S]? = some (.cells #[.int .u8 (stop : Int)] 5 (0, 0)))
    (hr : (Kd.slice 32 k32).C w0 A rows.length rows) (hf : FewR rows) (hrl : rows.length ≤ 1000000) (hst : stop ≤ 255) :
    Cb w0 13 #[.pointer (some ⟨Y, 0, none⟩), .pointer (some ⟨Z, 0, none⟩), .pointer (some ⟨X, 0, none⟩), .pointer (some ⟨S, 0, none⟩)] (fun L => decide (L.length ≤ stop) && decide (L.length < 10000))
      (fun w L M => ∃ v, Ev1 w0 X Y Z S A c stop rows w L v ∧ M = fun k => k = X ∨ k = Y ∨ v.ownBlock = some k) where
  enter := fun args W => by kernel_rfl
  low := by
    rintro w L M ⟨v, ho, rfl⟩ k (rfl | rfl | hk)
    · exact ⟨hX, blk_lt ho.out.ex⟩
    · exact ⟨hY, blk_lt ho.fine⟩
    · exact ho.out.lt hk
  stay := by
    rintro w w' L M ⟨v, ho, rfl⟩ hk _
    exact ⟨v, ⟨ho.out.stay (hk X (Or.inl rfl)) (fun k h => hk k (Or.inr (Or.inr h))), (hk Y (Or.inr (Or.inl rfl))).trans ho.fine, ho.low⟩, rfl⟩
  call := by
    rintro w L M r p ⟨v, ho, rfl⟩ hb hl
    refine (back2_calls ho hZ hS hr hf hrl hst hb hl r p).mono ?_
    rintro e w' ⟨rfl, v', ho', hf', hk⟩
    refine ⟨by simp, _, ⟨v', ho', rfl⟩, fun k hk' => ?_, hk⟩
    rcases hk' with rfl | rfl | hk'
    · exact Or.inl (Or.inl rfl)
    · exact Or.inl (Or.inr (Or.inl rfl))
    · exact (hf' k hk').elim (fun h => Or.inl (Or.inr (Or.inr h))) Or.inr
theorem take_len {α : Type} (l : List α) (n : Nat) : l.take (l.take n).length = l.take n := by
  rw [List.length_take]
  rcases Nat.le_total n l.length with h | h
  · rw [Nat.min_eq_left h]
  · rw [Nat.min_eq_right h, List.take_length, List.take_of_length_le h]
theorem each_nil {w : World} (v : Value) : Calls Try.prog 12 #[v, .nilFunc] w fun e w' => (∃ u, e = .returned u) ∧ w = w' := by
  have hn : ∀ W : World, (binOp .eql 34 .nilFunc .nilFunc).run Try.prog W = .ok (.bool true) W := fun _ => by kernel_rfl
  go_enter Try.func12, Try.ntmps12
  go_wp2_with fail
  exact bodyPost_ret (results_none rfl _ _ _) rfl ⟨⟨_, rfl⟩, rfl⟩
set_option maxHeartbeats 8000000 in
theorem mixEach_calls {w : World} {A : Option Addr} {c stop : Nat} {rows : List (List S32)} (h : (Kd.slice 32 k32).C w A rows.length rows) (hc : rows.length ≤ c) (hf : FewR rows) (hst : stop ≤ 255) :
    Calls Try.prog 4 #[.slice A rows.length c, .int .u8 (stop : Int)] w (LawPost w) := by
  have H := Aside0.mk (And.intro h (And.intro hc (And.intro hf hst)))
  clear h hc hf hst
  go_enter Try.func4, Try.ntmps4
  go_upto_region 1 with fail
  have h1 := blk_new w (.cells #[.slice A rows.length c] 22)
  have hb1 := below_alloc (Below.refl w.heap.size w) (.cells #[.slice A rows.length c] 22)
  have hz1 : (w.alloc (.cells #[.slice A rows.length c] 22)).heap.size = w.heap.size + 1 := by simp
  have h2 := blk_new (w.alloc (.cells #[.slice A rows.length c] 22)) (.cells #[.int .u8 (stop : Int)] 5)
  have hb2 := below_alloc (Below.refl (w.alloc (.cells #[.slice A rows.length c] 22)).heap.size (w.alloc (.cells #[.slice A rows.length c] 22))) (.cells #[.int .u8 (stop : Int)] 5)
  rw [hz1] at h2
  have HZ := Aside0.mk (blk_below h1 hb2)
  have HS := Aside0.mk h2
  have HB := Aside0.mk (below_step hb1 hb2)
  clear h1 hb1 hz1 h2 hb2
  generalize (w.alloc (.cells #[.slice A rows.length c] 22)).alloc (.cells #[.int .u8 (stop : Int)] 5) = w1 at HZ HS HB ⊢
  obtain ⟨Z, hZ⟩ : ∃ Z, w.heap.size = Z := ⟨_, rfl⟩
  rw [hZ] at HZ HS ⊢
  obtain ⟨S, hS⟩ : ∃ S, Z + 1 = S := ⟨_, rfl⟩
  rw [hS] at HS ⊢
  clear hZ hS
  have z0 := (blk_cell HZ.out 0).trans rfl
  obtain ⟨b, hb, hR⟩ := right24_calls (Kd.C_below H.out.1 HB.out) H.out.2.1 H.out.2.2.1
  have HR := Aside0.mk hR
  have HBB := Aside0.mk hb
  clear hb hR
  go_wp2_with fail
  refine HR.out.mono ?_
  rintro en w2 ⟨rfl, hb2⟩
  have HB2 := Aside0.mk (below_step HB.out hb2)
  have HZ2 := Aside0.mk (blk_below HZ.out hb2)
  have HS2 := Aside0.mk (blk_below HS.out hb2)
  clear z0 HR HB HZ HS hb2
  cases b
  · clear HBB
    go_wp2_with fail
    refine (awake_calls _).mono ?_
    rintro en w3 ⟨rfl, hb3⟩
    have HB3 := Aside0.mk (below_step HB2.out hb3)
    clear hb3
    go_wp2_with fail
    go_ret
    exact ⟨rfl, HB3.out⟩
  · have HO := Aside0.mk (HBB.out rfl)
    clear HBB
    have z0 := (blk_cell HZ2.out 0).trans rfl
    have HM := Aside0.mk (ref_merge_calls (Kd.C_below H.out.1 HB2.out) H.out.2.1 H.out.2.2.1 HO.out)
    go_wp2_with fail
    refine HM.out.mono ?_
    rintro en w3 ⟨v, rfl, hr, hb3⟩
    have HB3 := Aside0.mk (below_step HB2.out hb3)
    have HZ3 := Aside0.mk (blk_below HZ2.out hb3)
    have HS3 := Aside0.mk (blk_below HS2.out hb3)
    obtain ⟨A2, c2, rfl, hc2, hC2⟩ := Kd.R_reads hr
    have HC2 := Aside0.mk hC2
    have HCC2 := Aside0.mk hc2
    have HLM := Aside0.mk (show (mergeB rows).length ≤ 200 from by have := mergeB_length rows; have := HO.out.2.2; omega)
    obtain ⟨T, hT⟩ : ∃ T, mergeB rows = T := ⟨_, rfl⟩
    rw [hT] at HC2 HCC2 HLM ⊢
    have HT := Aside0.mk hT
    clear hr hb3 hC2 hc2 HM HB2 HZ2 HS2 z0 hT
    have z0 := (blk_cell HZ3.out 0).trans rfl
    go_upto_region 6 with fail
    clear z0
    have h1 := blk_new w3 (.cells #[.slice none 0 0] 25)
    have hb1 := below_alloc (Below.refl w3.heap.size w3) (.cells #[.slice none 0 0] 25)
    have hz1 : (w3.alloc (.cells #[.slice none 0 0] 25)).heap.size = w3.heap.size + 1 := by simp
    have h2 := blk_new (w3.alloc (.cells #[.slice none 0 0] 25)) (.cells #[.bool true] 4)
    have hb2 := below_alloc (Below.refl (w3.alloc (.cells #[.slice none 0 0] 25)).heap.size (w3.alloc (.cells #[.slice none 0 0] 25))) (.cells #[.bool true] 4)
    rw [hz1] at h2
    have HB4 := Aside0.mk (below_step hb1 hb2)
    have HX := Aside0.mk (blk_below h1 hb2)
    have HY := Aside0.mk h2
    clear h1 hb1 hz1 h2 hb2
    generalize (w3.alloc (.cells #[.slice none 0 0] 25)).alloc (.cells #[.bool true] 4) = w4 at HX HY HB4 ⊢
    obtain ⟨X, hX⟩ : ∃ X, w3.heap.size = X := ⟨_, rfl⟩
    have HXL := Aside0.mk (Nat.le_of_eq hX)
    rw [hX] at HX HY ⊢
    obtain ⟨Y, hY⟩ : ∃ Y, X + 1 = Y := ⟨_, rfl⟩
    have HYL := Aside0.mk (show w3.heap.size ≤ Y by omega)
    rw [hY] at HY ⊢
    clear hX hY
    have hO : Ev1 w3 X Y Z S A c stop rows w4 [] (.slice none 0 0) := ⟨⟨HX.out, HXL.out, Kd.R_nil _ _ _ _ _⟩, HY.out, HYL.out⟩
    have HE := Aside0.mk (each_calls A c (Kd.C_below H.out.1 HB3.out) (by have := HO.out.1; omega) HB4.out 13 _ (back2_cb X Y HXL.out HYL.out HZ3.out HS3.out (Kd.C_below H.out.1 HB3.out) H.out.2.2.1 (by have := HO.out.1; omega) H.out.2.2.2) ⟨_, hO, rfl⟩ (by have := HO.out.2.2; omega))
    have hz4 := blk_below HZ3.out HB4.out
    have z0 := (blk_cell hz4 0).trans rfl
    clear hO hz4
    go_wp2_with fail
    refine HE.out.mono ?_
    rintro en w5 ⟨⟨u, rfl⟩, qs, M, hst, ⟨v, ho, rfl⟩, hb⟩
    have hb5 : Below w3.heap.size w3 w5 := hb
    have HB5 := Aside0.mk hb5
    have HZ5 := Aside0.mk (blk_below HZ3.out hb5)
    have HS5 := Aside0.mk (blk_below HS3.out hb5)
    have htold := start_told hst (fun l hl => (HO.out.2.1 l hl).2)
    have htm := (told_merge htold (fun l hl => (HO.out.2.1 l hl).2)).1
    obtain ⟨TT, hTT⟩ : ∃ TT, tell (total qs) qs none = TT := ⟨_, rfl⟩
    rw [runL_tell, hTT] at ho
    rw [hTT] at htold htm
    rw [HT.out] at htm
    have hlen : TT.length = T.length := by rw [← htm, List.length_map]
    rw [cutL_take stop (fun L hL => by
      by_cases h1 : L.length ≤ stop
      · rw [decide_eq_true h1, decide_eq_true (by have := H.out.2.2.2; omega)]; rfl
      · rw [decide_eq_false h1]; rfl) TT [] (by simp) (by have := HLM.out; simp; omega)] at ho
    simp only [List.nil_append, List.length_nil, Nat.sub_zero] at ho
    have hfine : fineB rows (TT.take (stop + 1)) = true := by
      unfold fineB
      rw [List.all_eq_true]
      intro x hx
      rw [told_first htold (List.mem_of_mem_take hx)]
      exact beq_self_eq_true _
    have hY6 := ho.fine
    rw [hfine] at hY6
    have hg := ho.out
    rw [List.map_take, htm] at hg
    obtain ⟨G, hG⟩ : ∃ G, T.take (stop + 1) = G := ⟨_, rfl⟩
    rw [hG] at hg
    have HGL := Aside0.mk (show G.length = min T.length (stop + 1) ∧ G.length ≤ T.length from by rw [← hG, List.length_take]; exact ⟨Nat.min_comm _ _, Nat.min_le_right _ _⟩)
    have HG := Aside0.mk hG
    have HYY := Aside0.mk hY6
    obtain ⟨A6, c6, rfl, hc6, hC6⟩ := Kd.R_reads hg.own
    have HXX := Aside0.mk hg.ex
    have HC6 := Aside0.mk hC6
    have HCC6 := Aside0.mk hc6
    clear hst ho hb hb5 htold htm hTT hlen hfine hY6 hg hG hC6 hc6 HE z0 HB4 HX HY
    have z0 := (blk_cell HZ5.out 0).trans rfl
    go_wp2_with fail
    refine (each_nil _).mono ?_
    rintro en w6 ⟨⟨u2, rfl⟩, rfl⟩
    clear z0
    go_wp2_with fail
    have HXXX := Aside0.mk trivial
    refine Reg.region_list [Reg.Is (.bool true), Reg.Is (.bool true), Reg.Is (.slice A6 G.length c6), Reg.Is (.slice A2 T.length c2), Reg.Is (.slice A2 T.length c2), Reg.Is (.int .i64 (T.length : Int)), Reg.Is (.int .u8 (stop : Int)), Reg.Is (.int .i64 (stop : Int)), Reg.Is (.int .i64 ((stop : Int) + 1)), Reg.Is (.int .i64 (G.length : Int)), Reg.Is (.slice A2 G.length c2), Reg.Is (.bool true), Reg.Is (.bool true), Reg.Is (.bool true), Reg.Is (.bool true), Reg.Is (.bool true), Reg.Is (.bool true)]
        [some 19, some 20, some 21, some 22, some 23, some 24, some 25, some 26, some 27, some 28, some 29, some 30, some 31, some 32, some 33, some 34, some 4] (by kernel_rfl) (by rfl) (by rfl) (by rfl) rfl ⟨Reg.mono_is _, Reg.mono_is _, Reg.mono_is _, Reg.mono_is _, Reg.mono_is _, Reg.mono_is _, Reg.mono_is _, Reg.mono_is _, Reg.mono_is _, Reg.mono_is _, Reg.mono_is _, Reg.mono_is _, Reg.mono_is _, Reg.mono_is _, Reg.mono_is _, Reg.mono_is _, Reg.mono_is _, trivial⟩ (Reg.noneOk_of (by rfl)) ⟨?_, ?_, ?_, ?_, ?_, ?_, ?_, ?_, ?_, ?_, ?_, ?_, ?_, ?_, ?_, ?_, ?_, trivial⟩ ?_
    · intro a w hl   -- 0: slot 19
      have q7 : a.eval (.tmp 7) = .pointer (some ⟨Y, 0, none⟩) := hl.out 7 rfl
      have qc : ∀ x, a.eval (.const x) = x := fun _ => rfl
      refine Reg.does_is (x := .bool true) rfl rfl ?_
      have k0 := (blk_cell (blk_below HYY.out hl.below) 0).trans rfl
      clear hl
      generalize a.eval = ρ at *
      go_simp
    · intro a w hl   -- 1: slot 20
      have q19 : a.eval (.tmp 19) = .bool true := hl.has 0 rfl
      have qc : ∀ x, a.eval (.const x) = x := fun _ => rfl
      refine Reg.does_is (x := .bool true) rfl rfl ?_
      clear hl
      generalize a.eval = ρ at *
      go_simp
    · intro a w hl   -- 2: slot 21
      have q6 : a.eval (.tmp 6) = .pointer (some ⟨X, 0, none⟩) := hl.out 6 rfl
      have q20 : a.eval (.tmp 20) = .bool true := hl.has 1 rfl
      have qc : ∀ x, a.eval (.const x) = x := fun _ => rfl
      refine Reg.does_is (x := .slice A6 G.length c6) rfl (Reg.wanted_of rfl rfl (hl.yields 1 rfl rfl q20)) ?_
      have k0 := (blk_cell (blk_below HXX.out hl.below) 0).trans rfl
      clear hl
      generalize a.eval = ρ at *
      go_simp
    · intro a w hl   -- 3: slot 22
      have q5 : a.eval (.tmp 5) = .slice A2 T.length c2 := hl.out 5 rfl
      have q20 : a.eval (.tmp 20) = .bool true := hl.has 1 rfl
      have qc : ∀ x, a.eval (.const x) = x := fun _ => rfl
      refine Reg.does_is (x := .slice A2 T.length c2) rfl (Reg.wanted_of rfl rfl (hl.yields 1 rfl rfl q20)) ?_
      clear hl
      generalize a.eval = ρ at *
      go_simp
    · intro a w hl   -- 4: slot 23
      have q5 : a.eval (.tmp 5) = .slice A2 T.length c2 := hl.out 5 rfl
      have q20 : a.eval (.tmp 20) = .bool true := hl.has 1 rfl
      have qc : ∀ x, a.eval (.const x) = x := fun _ => rfl
      refine Reg.does_is (x := .slice A2 T.length c2) rfl (Reg.wanted_of rfl rfl (hl.yields 1 rfl rfl q20)) ?_
      clear hl
      generalize a.eval = ρ at *
      go_simp
    · intro a w hl   -- 5: slot 24
      have q23 : a.eval (.tmp 23) = .slice A2 T.length c2 := hl.has 4 rfl
      have q20 : a.eval (.tmp 20) = .bool true := hl.has 1 rfl
      have qc : ∀ x, a.eval (.const x) = x := fun _ => rfl
      refine Reg.does_is (x := .int .i64 (T.length : Int)) rfl (Reg.wanted_of rfl rfl (hl.yields 1 rfl rfl q20)) ?_
      clear hl
      generalize a.eval = ρ at *
      go_simp
    · intro a w hl   -- 6: slot 25
      have q3 : a.eval (.tmp 3) = .pointer (some ⟨S, 0, none⟩) := hl.out 3 rfl
      have q20 : a.eval (.tmp 20) = .bool true := hl.has 1 rfl
      have qc : ∀ x, a.eval (.const x) = x := fun _ => rfl
      refine Reg.does_is (x := .int .u8 (stop : Int)) rfl (Reg.wanted_of rfl rfl (hl.yields 1 rfl rfl q20)) ?_
      have k0 := (blk_cell (blk_below HS5.out hl.below) 0).trans rfl
      clear hl
      generalize a.eval = ρ at *
      go_simp
    · intro a w hl   -- 7: slot 26
      have q25 : a.eval (.tmp 25) = .int .u8 (stop : Int) := hl.has 6 rfl
      have q20 : a.eval (.tmp 20) = .bool true := hl.has 1 rfl
      have qc : ∀ x, a.eval (.const x) = x := fun _ => rfl
      refine Reg.does_is (x := .int .i64 (stop : Int)) rfl (Reg.wanted_of rfl rfl (hl.yields 1 rfl rfl q20)) ?_
      have hst : (stop : Int) ≤ 255 := by have := H.out.2.2.2; omega
      clear hl
      generalize a.eval = ρ at *
      go_simp
      exact IntWalk.i64_in _ (by omega)
    · intro a w hl   -- 8: slot 27
      have q26 : a.eval (.tmp 26) = .int .i64 (stop : Int) := hl.has 7 rfl
      have q20 : a.eval (.tmp 20) = .bool true := hl.has 1 rfl
      have qc : ∀ x, a.eval (.const x) = x := fun _ => rfl
      refine Reg.does_is (x := .int .i64 ((stop : Int) + 1)) rfl (Reg.wanted_of rfl rfl (hl.yields 1 rfl rfl q20)) ?_
      have hst : (stop : Int) ≤ 255 := by have := H.out.2.2.2; omega
      clear hl
      generalize a.eval = ρ at *
      go_simp
      exact IntWalk.i64_in _ (by omega)
    · intro a w hl   -- 9: slot 28
      have q24 : a.eval (.tmp 24) = .int .i64 (T.length : Int) := hl.has 5 rfl
      have q27 : a.eval (.tmp 27) = .int .i64 ((stop : Int) + 1) := hl.has 8 rfl
      have q20 : a.eval (.tmp 20) = .bool true := hl.has 1 rfl
      have qc : ∀ x, a.eval (.const x) = x := fun _ => rfl
      refine Reg.does_is (x := .int .i64 (G.length : Int)) rfl (Reg.wanted_of rfl rfl (hl.yields 1 rfl rfl q20)) ?_
      have hm : (if (stop : Int) + 1 < (T.length : Int) then (stop : Int) + 1 else (T.length : Int)) = (G.length : Int) := by have := HGL.out.1; split <;> omega
      clear hl
      generalize a.eval = ρ at *
      go_simp
    · intro a w hl   -- 10: slot 29
      have q22 : a.eval (.tmp 22) = .slice A2 T.length c2 := hl.has 3 rfl
      have q28 : a.eval (.tmp 28) = .int .i64 (G.length : Int) := hl.has 9 rfl
      have q20 : a.eval (.tmp 20) = .bool true := hl.has 1 rfl
      have qc : ∀ x, a.eval (.const x) = x := fun _ => rfl
      refine Reg.does_is (x := .slice A2 G.length c2) rfl (Reg.wanted_of rfl rfl (hl.yields 1 rfl rfl q20)) ?_
      obtain ⟨i32, hi32⟩ : ∃ i5, Try.prog.info? 32 = some i5 := Option.isSome_iff_exists.1 (by rfl)
      have hs := cut_take (P := Try.prog) 25 32 Try.underlying25 hi32 .i64 A2 T.length c2 G.length HGL.out.2 HCC2.out
      clear hl
      generalize a.eval = ρ at *
      go_simp
    · intro a w hl   -- 11: slot 30
      have q21 : a.eval (.tmp 21) = .slice A6 G.length c6 := hl.has 2 rfl
      have q29 : a.eval (.tmp 29) = .slice A2 G.length c2 := hl.has 10 rfl
      have q20 : a.eval (.tmp 20) = .bool true := hl.has 1 rfl
      have qc : ∀ x, a.eval (.const x) = x := fun _ => rfl
      refine Reg.does_call_is (x := .bool true) #[.slice A6 G.length c6, .slice A2 G.length c2] rfl (Reg.wanted_of rfl rfl (hl.yields 1 rfl rfl q20)) Try.func9 (by kernel_rfl) rfl rfl (by simp [qc, q21, q29]) ?_
      exact same_true (Kd.C_below HC6.out hl.below) HCC6.out (by
        have h1 := Kd.C_take (m := G.length) (Kd.C_below HC2.out (below_step HB5.out hl.below)) HGL.out.2
        rw [show T.take G.length = G from by rw [← HG.out]; exact take_len T (stop + 1)] at h1
        exact h1) (Nat.le_trans HGL.out.2 HCC2.out) (by have := HLM.out; have := HGL.out.2; omega)
    · intro a w hl   -- 12: slot 31
      have q20 : a.eval (.tmp 20) = .bool true := hl.has 1 rfl
      have q30 : a.eval (.tmp 30) = .bool true := hl.has 11 rfl
      have qc : ∀ x, a.eval (.const x) = x := fun _ => rfl
      refine Reg.does_is (x := .bool true) rfl rfl ?_
      clear hl
      generalize a.eval = ρ at *
      go_simp
    · intro a w hl   -- 13: slot 32
      have q31 : a.eval (.tmp 31) = .bool true := hl.has 12 rfl
      have qc : ∀ x, a.eval (.const x) = x := fun _ => rfl
      refine Reg.does_is (x := .bool true) rfl rfl ?_
      clear hl
      generalize a.eval = ρ at *
      go_simp
    · intro a w hl   -- 14: slot 33
      have q32 : a.eval (.tmp 32) = .bool true := hl.has 13 rfl
      have qc : ∀ x, a.eval (.const x) = x := fun _ => rfl
      refine Reg.does_call_is (x := .bool true) #[] rfl (Reg.wanted_of rfl rfl (hl.yields 13 rfl rfl q32)) Try.func7 (by kernel_rfl) rfl rfl (by simp [qc]) ?_
      exact awake_calls w
    · intro a w hl   -- 15: slot 34
      have q32 : a.eval (.tmp 32) = .bool true := hl.has 13 rfl
      have q33 : a.eval (.tmp 33) = .bool true := hl.has 14 rfl
      have qc : ∀ x, a.eval (.const x) = x := fun _ => rfl
      refine Reg.does_is (x := .bool true) rfl rfl ?_
      clear hl
      generalize a.eval = ρ at *
      go_simp
    · intro a w hl   -- 16: slot 4
      have q34 : a.eval (.tmp 34) = .bool true := hl.has 15 rfl
      have qc : ∀ x, a.eval (.const x) = x := fun _ => rfl
      refine Reg.does_is (x := .bool true) rfl rfl ?_
      clear hl
      generalize a.eval = ρ at *
      go_simp
    · rintro v w hb ⟨e19, e20, e21, e22, e23, e24, e25, e26, e27, e28, e29, e30, e31, e32, e33, e34, e4, _⟩
      replace e19 : v 0 = .bool true := e19
      replace e20 : v 1 = .bool true := e20
      replace e21 : v 2 = .slice A6 G.length c6 := e21
      replace e22 : v 3 = .slice A2 T.length c2 := e22
      replace e23 : v 4 = .slice A2 T.length c2 := e23
      replace e24 : v 5 = .int .i64 (T.length : Int) := e24
      replace e25 : v 6 = .int .u8 (stop : Int) := e25
      replace e26 : v 7 = .int .i64 (stop : Int) := e26
      replace e27 : v 8 = .int .i64 ((stop : Int) + 1) := e27
      replace e28 : v 9 = .int .i64 (G.length : Int) := e28
      replace e29 : v 10 = .slice A2 G.length c2 := e29
      replace e30 : v 11 = .bool true := e30
      replace e31 : v 12 = .bool true := e31
      replace e32 : v 13 = .bool true := e32
      replace e33 : v 14 = .bool true := e33
      replace e34 : v 15 = .bool true := e34
      replace e4 : v 16 = .bool true := e4
      simp only [Reg.putL, Act.put, List.setIfInBounds_toArray, List.set_cons_zero, List.set_cons_succ, e19, e20, e21, e22, e23, e24, e25, e26, e27, e28, e29, e30, e31, e32, e33, e34, e4]
      clear e19 e20 e21 e22 e23 e24 e25 e26 e27 e28 e29 e30 e31 e32 e33 e34 e4
      have HB9 := Aside0.mk (below_step HB3.out (below_step HB5.out hb))
      clear hb
      go_wp2_with fail
      go_ret
      exact ⟨by simp, HB9.out⟩
end Go.Proofs.Ytcdgenoakpmlbaa.Mix
