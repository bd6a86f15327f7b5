/- Front, Back, Cut of a chain. -/
import Derived.Test.YtcncninjnickoaaChain2
namespace Go.Proofs.Ytcncninjnickoaa.Chain
open Go.RowKit Go.Proofs.YtcncninjnickoaaW.PrintWords Go.Proofs.YtcncninjnickoaaW.PrintLast Go.Proofs.YtcncninjnickoaaW.PrintMore
open Go.Proofs.Ytcncninjnickoaa Go.Proofs.Ytcncninjnickoaa.Ring
set_option linter.unusedVariables false
set_option linter.unusedSimpArgs false

theorem length_le {N : Nat} : ∀ {l : List Nat}, l.Nodup → (∀ x ∈ l, x < N) → l.length ≤ N := by
  induction N with
  | zero =>
    intro l _ h
    cases l with
    | nil => simp
    | cons a t => exact absurd (h a (by simp)) (by omega)
  | succ N ih =>
    intro l hn h
    have h1 : (l.erase N).length ≤ N := ih (hn.erase _) (fun x hx => by
      have hx' := (hn.mem_erase_iff).1 hx
      have := h x hx'.2
      omega)
    have h2 : l.length - 1 ≤ (l.erase N).length := by
      rw [List.length_erase]
      split <;> omega
    omega

def On (w : World) (g h N : Nat) (row : List Nat) : Prop := ∃ f, Chn w g h N row.length f ∧ Ring f N row

theorem On.le {w : World} {g h N : Nat} {row : List Nat} (hc : On w g h N row) : row.length ≤ 4096 := by
  obtain ⟨f, hc, hr⟩ := hc
  exact Nat.le_trans (length_le hr.nodup hr.lt) hc.le
theorem On.keeps {w w' : World} {g h N : Nat} {row : List Nat} {S : Nat → Prop} (hc : On w g h N row) (hk : Keeps S w w') (hg : ¬ S g) (hh : ¬ S h) : On w' g h N row := by
  obtain ⟨f, hc, hr⟩ := hc
  exact ⟨f, hc.keeps hk hg hh, hr⟩
theorem On.below {w w' : World} {g h N : Nat} {row : List Nat} (hc : On w g h N row) (hb : Below w.heap.size w w') : On w' g h N row := by
  obtain ⟨f, hc, hr⟩ := hc
  exact ⟨f, hc.below hb, hr⟩

theorem out_any {w : World} {g h N : Nat} {row : List Nat} (hc : On w g h N row) {i : Nat} (hi : i < N) :
    Calls Try.prog 24 #[.pointer (some ⟨g, 0, none⟩), .int .i64 (i : Int)] w fun e w' => (∃ v, e = .returned v) ∧ On w' g h N (row.erase i) ∧ Keeps (SetOf g h) w w' := by
  have hle := hc.le
  obtain ⟨f, hc, hr⟩ := hc
  by_cases hm : i ∈ row
  · have hin := (hr.inn i hi).2 hm
    have ha := hr.le' (List.mem_append_left [N] hm)
    have hb := hr.le (List.mem_cons_of_mem N hm)
    have hpos := List.length_pos_of_mem hm
    refine (out_in hc hpos hle hi hin ha hb).mono ?_
    rintro e w' ⟨he, hc', hk⟩
    refine ⟨he, ⟨outF f i, ?_, ?_⟩, hk⟩
    · rw [List.length_erase_of_mem hm]; exact hc'
    · obtain ⟨p, q, rfl⟩ := List.append_of_mem hm
      have hd := List.nodup_append.1 hr.nodup
      have hip : i ∉ p := fun h1 => hd.2.2 i h1 i (by simp) rfl
      rw [List.erase_append_right _ hip, List.erase_cons_head]
      exact out_ring hr
  · have hin : (f i).inn = false := by
      rw [Bool.eq_false_iff]
      exact fun h => hm ((hr.inn i hi).1 h)
    refine (out_not hc hi hin).mono ?_
    rintro e w' ⟨he, hb⟩
    rw [List.erase_of_not_mem hm]
    exact ⟨he, ⟨f, hc.below hb, hr⟩, Keeps.of_below hb _⟩

theorem front_in {w : World} {g h N : Nat} {row : List Nat} (hc : On w g h N row) {i : Nat} (hi : i < N) :
    Calls Try.prog 12 #[.pointer (some ⟨g, 0, none⟩), .int .i64 (i : Int)] w fun e w' => e = .returned (.int .i64 0) ∧ On w' g h N (i :: row.erase i) ∧ Keeps (SetOf g h) w w' := by
  have HC := Aside0.mk hc
  obtain ⟨f, hc, hr⟩ := hc
  have HT := Aside0.mk (there_in hc hi)
  clear hc hr
  go_enter Try.func12, Try.ntmps12
  go_wp2_with (go_at_call 23; refine HT.out.mono ?_; rintro e w' ⟨rfl, rfl⟩)
  refine (out_any HC.out hi).mono ?_
  rintro e w1 ⟨⟨v, rfl⟩, hc1, hk1⟩
  have hle := hc1.le
  obtain ⟨f1, hc1, hr1⟩ := hc1
  have HR := Aside0.mk (root_calls hc1)
  have hz := hr1.le (i := N) (by simp)
  have hlt : (row.erase i).length + 1 = (i :: row.erase i).length := rfl
  have hni : i ∉ row.erase i := by
    obtain ⟨f, hc, hr⟩ := HC.out
    exact fun h => ((hr.nodup.mem_erase_iff).1 h).1 rfl
  have HP := Aside0.mk (put_calls hc1 hle hi (Nat.le_refl N) hz)
  have HF := Aside0.mk (front_ring hr1 hi hni)
  have HK := Aside0.mk hk1
  clear hc1 hr1 hk1 HC
  go_wp2_with (go_at_call 22; refine HR.out.mono ?_; rintro e w' ⟨rfl, rfl⟩)
  refine HP.out.mono ?_
  rintro e w2 ⟨⟨v2, rfl⟩, hc2, hk2⟩
  have HC2 := Aside0.mk hc2
  have HK2 := Aside0.mk hk2
  clear hc2 hk2
  go_wp2_with fail
  go_ret
  exact ⟨by simp, ⟨_, HC2.out, HF.out⟩, HK.out.trans HK2.out⟩

theorem back_in {w : World} {g h N : Nat} {row : List Nat} (hc : On w g h N row) {i : Nat} (hi : i < N) :
    Calls Try.prog 14 #[.pointer (some ⟨g, 0, none⟩), .int .i64 (i : Int)] w fun e w' => e = .returned (.int .i64 0) ∧ On w' g h N (row.erase i ++ [i]) ∧ Keeps (SetOf g h) w w' := by
  have HC := Aside0.mk hc
  obtain ⟨f, hc, hr⟩ := hc
  have HT := Aside0.mk (there_in hc hi)
  clear hc hr
  go_enter Try.func14, Try.ntmps14
  go_wp2_with (go_at_call 23; refine HT.out.mono ?_; rintro e w' ⟨rfl, rfl⟩)
  refine (out_any HC.out hi).mono ?_
  rintro e w1 ⟨⟨v, rfl⟩, hc1, hk1⟩
  go_wp2_with fail
  have hle := hc1.le
  have hni : i ∉ row.erase i := by
    obtain ⟨f, hc, hr⟩ := HC.out
    exact fun h => ((hr.nodup.mem_erase_iff).1 h).1 rfl
  obtain ⟨f1, hc1, hr1⟩ := hc1
  have HR := Aside0.mk (root_calls hc1.drew)
  have h0 := (blk_cell hc1.obj 0).trans rfl
  obtain ⟨z, hz⟩ : ∃ z, (f1 N).ahead = z := ⟨_, rfl⟩
  have hA := (hc1.links.cells (i := N) (Nat.le_refl N)).1
  rw [hz] at hA
  have hzm : z ∈ N :: row.erase i := by
    rw [← hr1.prev, ← hz]
    exact List.mem_map_of_mem (f := Ring.A f1) (by simp)
  have hzle : z ≤ N := by rw [← hz]; exact hr1.le' (by simp)
  have HP := Aside0.mk (put_calls hc1.drew hle hi hzle (hr1.le hzm))
  have HF := back_ring hr1 hi hni
  rw [hz] at HF
  have HF := Aside0.mk HF
  have HK := Aside0.mk hk1.drew
  have hlt : (row.erase i).length + 1 = (row.erase i ++ [i]).length := by simp
  have hlN : (N : Int) < (N : Int) + 1 := by omega
  have hNle : N ≤ 4096 := by obtain ⟨f, hc, hr⟩ := HC.out; exact hc.le
  clear hc1 hr1 hk1
  refine wp_region_any (by kernel_rfl) ?_
  change wpAny _ _ _ _ _ _ _ (World.drew _)
  refine wpAny_take (i := 0) (v := ?_) rfl (by kernel_rfl) (by kernel_rfl) (by kernel_rfl) (fun _ _ _ h => h) (Or.inl ⟨by rfl, ?_⟩) ?_
  rotate_left 1
  · intro w; first | (go_simp; done) | (go_simp; with_reducible rfl)
  refine wpAny_take (i := 1) (v := ?_) rfl (by kernel_rfl) (by kernel_rfl) (by kernel_rfl) (fun _ _ _ h => h) (Or.inl ⟨by rfl, ?_⟩) ?_
  rotate_left 1
  · intro w; first | (go_simp; done) | (go_simp; with_reducible rfl)
  refine wpAny_take (i := 2) (v := ?_) rfl (by kernel_rfl) (by kernel_rfl) (by kernel_rfl) (fun _ _ _ h => h) (Or.inl ⟨by rfl, ?_⟩) ?_
  rotate_left 1
  · intro w; first | (go_simp; done) | (go_simp; with_reducible rfl)
  refine wpAny_take (i := 3) (v := ?_) rfl (by kernel_rfl) (by kernel_rfl) (by kernel_rfl) (fun _ _ _ h => h) (Or.inl ⟨by rfl, ?_⟩) ?_
  rotate_left 1
  · intro w; first | (go_simp; done) | (go_simp; with_reducible rfl)
  refine wpAny_take (i := 4) (v := ?_) rfl (by kernel_rfl) (by kernel_rfl) (by kernel_rfl) (fun _ _ _ h => h) (Or.inl ⟨by rfl, ?_⟩) ?_
  rotate_left 1
  · intro w; first | (go_simp; done) | (go_simp; with_reducible rfl)
  refine wpAny_take (i := 6) (v := ?_) rfl (by kernel_rfl) (by kernel_rfl) (by kernel_rfl) (fun _ _ _ h => h) (Or.inl ⟨by rfl, ?_⟩) ?_
  rotate_left 1
  · intro w; first | (go_simp; done) | (go_simp; with_reducible rfl)
  refine wpAny_ready (rs := [5, 7]) (by kernel_rfl) (by simp) ?_
  refine AllReady.cons rfl (fun K hK => ?_) ?_
  · skip
    go_simp
    refine hK _ _ ?_
    clear hK K
    refine wpAny_ready (rs := [7]) (by kernel_rfl) (by simp) ?_
    refine AllReady.cons rfl (fun K hK => ?_) AllReady.nil
    go_simp
    refine HR.out.mono ?_
    rintro e w' ⟨rfl, rfl⟩
    go_simp
    refine hK _ _ ?_
    clear hK K
    refine wpAny_take (i := 8) (v := ?_) rfl (by kernel_rfl) (by kernel_rfl) (by kernel_rfl) (fun _ _ _ h => h) (Or.inl ⟨by rfl, ?_⟩) ?_
    rotate_left 1
    · intro w; first | (go_simp; done) | (go_simp; with_reducible rfl)
    refine wpAny_take (i := 9) (v := ?_) rfl (by kernel_rfl) (by kernel_rfl) (by kernel_rfl) (fun _ _ _ h => h) (Or.inl ⟨by rfl, ?_⟩) ?_
    rotate_left 1
    · intro w; first | (go_simp; done) | (go_simp; with_reducible rfl)
    refine wpAny_ready (rs := [10]) (by kernel_rfl) (by simp) ?_
    refine AllReady.cons rfl (fun K hK => ?_) AllReady.nil
    go_simp
    refine hK _ _ ?_
    clear hK K
    refine wpAny_ready (rs := [11]) (by kernel_rfl) (by simp) ?_
    refine AllReady.cons rfl (fun K hK => ?_) AllReady.nil
    go_simp
    refine HP.out.mono ?_
    rintro e w2 ⟨⟨v2, rfl⟩, hc2, hk2⟩
    go_simp
    refine hK _ _ ?_
    clear hK K
    refine wpAny_done (by kernel_rfl) ?_ _
    try go_simp
    have HC2 := Aside0.mk hc2
    have HK2 := Aside0.mk hk2
    clear hc2 hk2
    go_wp2_with fail
    go_ret
    refine ⟨by simp, ⟨_, ?_, HF.out⟩, HK.out.trans HK2.out⟩
    rw [← hlt]
    exact HC2.out
  refine AllReady.cons rfl (fun K hK => ?_) AllReady.nil
  go_simp
  refine HR.out.mono ?_
  rintro e w' ⟨rfl, rfl⟩
  go_simp
  refine hK _ _ ?_
  clear hK K
  refine wpAny_ready (rs := [5]) (by kernel_rfl) (by simp) ?_
  refine AllReady.cons rfl (fun K hK => ?_) AllReady.nil
  go_simp
  refine hK _ _ ?_
  clear hK K
  refine wpAny_take (i := 8) (v := ?_) rfl (by kernel_rfl) (by kernel_rfl) (by kernel_rfl) (fun _ _ _ h => h) (Or.inl ⟨by rfl, ?_⟩) ?_
  rotate_left 1
  · intro w; first | (go_simp; done) | (go_simp; with_reducible rfl)
  refine wpAny_take (i := 9) (v := ?_) rfl (by kernel_rfl) (by kernel_rfl) (by kernel_rfl) (fun _ _ _ h => h) (Or.inl ⟨by rfl, ?_⟩) ?_
  rotate_left 1
  · intro w; first | (go_simp; done) | (go_simp; with_reducible rfl)
  refine wpAny_ready (rs := [10]) (by kernel_rfl) (by simp) ?_
  refine AllReady.cons rfl (fun K hK => ?_) AllReady.nil
  go_simp
  refine hK _ _ ?_
  clear hK K
  refine wpAny_ready (rs := [11]) (by kernel_rfl) (by simp) ?_
  refine AllReady.cons rfl (fun K hK => ?_) AllReady.nil
  go_simp
  refine HP.out.mono ?_
  rintro e w2 ⟨⟨v2, rfl⟩, hc2, hk2⟩
  go_simp
  refine hK _ _ ?_
  clear hK K
  refine wpAny_done (by kernel_rfl) ?_ _
  try go_simp
  have HC2 := Aside0.mk hc2
  have HK2 := Aside0.mk hk2
  clear hc2 hk2
  go_wp2_with fail
  go_ret
  refine ⟨by simp, ⟨_, ?_, HF.out⟩, HK.out.trans HK2.out⟩
  rw [← hlt]
  exact HC2.out

theorem cut_in {w : World} {g h N : Nat} {row : List Nat} (hc : On w g h N row) {i : Nat} (hi : i < N) :
    Calls Try.prog 16 #[.pointer (some ⟨g, 0, none⟩), .int .i64 (i : Int)] w fun e w' => e = .returned (.int .i64 (if i ∈ row then 0 else 9)) ∧ On w' g h N (row.erase i) ∧ Keeps (SetOf g h) w w' := by
  have HC := Aside0.mk hc
  obtain ⟨f, hc, hr⟩ := hc
  have HT := Aside0.mk (there_in hc hi)
  have h0 := (blk_cell hc.obj 0).trans rfl
  have hI := (hc.links.cells (i := i) (by omega)).2.2
  have hle := hc.le
  have hk1 : (i : Int) < (N : Int) + 1 := by omega
  by_cases hm : i ∈ row
  · rw [(hr.inn i hi).2 hm] at hI
    rw [if_pos hm]
    clear hc hr
    go_enter Try.func16, Try.ntmps16
    go_wp2_with (go_at_call 23; refine HT.out.mono ?_; rintro e w' ⟨rfl, rfl⟩)
    refine (out_any HC.out hi).mono ?_
    rintro e w1 ⟨⟨v, rfl⟩, hc1, hk1⟩
    have HC1 := Aside0.mk hc1
    have HK1 := Aside0.mk hk1
    clear hc1 hk1
    go_wp2_with fail
    go_ret
    exact ⟨by simp, HC1.out, HK1.out⟩
  · have hin : (f i).inn = false := by
      rw [Bool.eq_false_iff]
      exact fun h => hm ((hr.inn i hi).1 h)
    rw [hin] at hI
    rw [if_neg hm]
    clear hc hr
    go_enter Try.func16, Try.ntmps16
    go_wp2_with (go_at_call 23; refine HT.out.mono ?_; rintro e w' ⟨rfl, rfl⟩)
    go_ret
    rw [List.erase_of_not_mem hm]
    exact ⟨by simp, HC.out, Keeps.refl _ _⟩

theorem front_bad {w : World} {v : Value} {i r : Int} (hr : r ≠ 0) (h : Calls Try.prog 23 #[v, .int .i64 i] w fun e w' => e = .returned (.int .i64 r) ∧ w = w') :
    Calls Try.prog 12 #[v, .int .i64 i] w fun e w' => e = .returned (.int .i64 r) ∧ w = w' := by
  have H := Aside0.mk h
  have hd : decide (r = 0) = false := decide_eq_false hr
  clear h
  go_enter Try.func12, Try.ntmps12
  go_wp2_with (go_at_call 23; refine H.out.mono ?_; rintro e w' ⟨rfl, rfl⟩)
  go_ret
  exact ⟨by simp, rfl⟩

theorem back_bad {w : World} {v : Value} {i r : Int} (hr : r ≠ 0) (h : Calls Try.prog 23 #[v, .int .i64 i] w fun e w' => e = .returned (.int .i64 r) ∧ w = w') :
    Calls Try.prog 14 #[v, .int .i64 i] w fun e w' => e = .returned (.int .i64 r) ∧ w = w' := by
  have H := Aside0.mk h
  have hd : decide (r = 0) = false := decide_eq_false hr
  clear h
  go_enter Try.func14, Try.ntmps14
  go_wp2_with (go_at_call 23; refine H.out.mono ?_; rintro e w' ⟨rfl, rfl⟩)
  go_ret
  exact ⟨by simp, rfl⟩

theorem cut_bad {w : World} {v : Value} {i r : Int} (hr : r ≠ 0) (h : Calls Try.prog 23 #[v, .int .i64 i] w fun e w' => e = .returned (.int .i64 r) ∧ w = w') :
    Calls Try.prog 16 #[v, .int .i64 i] w fun e w' => e = .returned (.int .i64 r) ∧ w = w' := by
  have H := Aside0.mk h
  have hd : decide (r = 0) = false := decide_eq_false hr
  clear h
  go_enter Try.func16, Try.ntmps16
  go_wp2_with (go_at_call 23; refine H.out.mono ?_; rintro e w' ⟨rfl, rfl⟩)
  go_ret
  exact ⟨by simp, rfl⟩
end Go.Proofs.Ytcncninjnickoaa.Chain
