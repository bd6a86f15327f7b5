/- Len, Has, First, Last of a chain. -/
import Derived.Test.YtcncninjnickoaaChain3
namespace Go.Proofs.Ytcncninjnickoaa.Chain
open Go.RowKit Go.Proofs.YtcncninjnickoaaW.PrintWords Go.Proofs.YtcncninjnickoaaW.PrintLast Go.Proofs.YtcncninjnickoaaW.PrintMore
open Go.Proofs.Ytcncninjnickoaa Go.Proofs.Ytcncninjnickoaa.Ring
set_option linter.unusedVariables false
set_option linter.unusedSimpArgs false

theorem len_nobody {w : World} {v : Value} (hv : NoChain w v) : Calls Try.prog 21 #[v] w fun e w' => e = .returned (.int .i64 0) ∧ w = w' := by
  rcases hv with rfl | ⟨g, rfl, hg⟩
  · go_enter Try.func21, Try.ntmps21
    go_wp2_with fail
    go_ret
    exact ⟨by simp, rfl⟩
  · have h0 := (blk_cell hg 1).trans rfl
    go_enter Try.func21, Try.ntmps21
    go_wp2_with fail
    go_ret
    exact ⟨by simp, rfl⟩
theorem len_on {w : World} {g h N : Nat} {row : List Nat} (hc : On w g h N row) : Calls Try.prog 21 #[.pointer (some ⟨g, 0, none⟩)] w fun e w' => e = .returned (.int .i64 (row.length : Int)) ∧ w = w' := by
  have hle := hc.le
  obtain ⟨f, hc, hr⟩ := hc
  have h0 := (blk_cell hc.obj 1).trans rfl
  clear hc hr
  go_enter Try.func21, Try.ntmps21
  go_wp2_with fail
  go_ret
  exact ⟨by simp, rfl⟩

theorem has_nobody {w : World} {v : Value} (hv : NoChain w v) (i : Int) : Calls Try.prog 9 #[v, .int .i64 i] w fun e w' => e = .returned (.bool false) ∧ w = w' := by
  have HT := Aside0.mk (there_nobody hv i)
  clear hv
  go_enter Try.func9, Try.ntmps9
  go_wp2_with (go_at_call 23; refine HT.out.mono ?_; rintro e w' ⟨rfl, rfl⟩)
  go_ret
  exact ⟨by simp, rfl⟩
theorem has_out {w : World} {g h N : Nat} {row : List Nat} (hc : On w g h N row) {i : Int} (hi : i < 0 ∨ (N : Int) ≤ i) : Calls Try.prog 9 #[.pointer (some ⟨g, 0, none⟩), .int .i64 i] w fun e w' => e = .returned (.bool false) ∧ w = w' := by
  obtain ⟨f, hc, hr⟩ := hc
  have HT := Aside0.mk (there_out hc hi)
  clear hc hr
  go_enter Try.func9, Try.ntmps9
  go_wp2_with (go_at_call 23; refine HT.out.mono ?_; rintro e w' ⟨rfl, rfl⟩)
  go_ret
  exact ⟨by simp, rfl⟩
theorem has_in {w : World} {g h N : Nat} {row : List Nat} (hc : On w g h N row) {i : Nat} (hi : i < N) : Calls Try.prog 9 #[.pointer (some ⟨g, 0, none⟩), .int .i64 (i : Int)] w fun e w' => e = .returned (.bool (decide (i ∈ row))) ∧ w = w' := by
  obtain ⟨f, hc, hr⟩ := hc
  have HT := Aside0.mk (there_in hc hi)
  have h0 := (blk_cell hc.obj 0).trans rfl
  have hI := (hc.links.cells (i := i) (by omega)).2.2
  have hle := hc.le
  have hk1 : (i : Int) < (N : Int) + 1 := by omega
  have hb : (f i).inn = decide (i ∈ row) := by
    rw [Bool.eq_iff_iff, decide_eq_true_iff]
    exact hr.inn i hi
  rw [hb] at hI
  generalize decide (i ∈ row) = b at *
  clear hb hc hr
  go_enter Try.func9, Try.ntmps9
  go_wp2_with (go_at_call 23; refine HT.out.mono ?_; rintro e w' ⟨rfl, rfl⟩)
  go_ret
  exact ⟨by simp, rfl⟩

theorem first_nobody {w : World} {v : Value} (hv : NoChain w v) : Calls Try.prog 19 #[v] w fun e w' => e = .returned (.tuple #[.int .i64 0, .bool false]) ∧ w = w' := by
  have HT := Aside0.mk (len_nobody hv)
  clear hv
  go_enter Try.func19, Try.ntmps19
  go_wp2_with (go_at_call 21; refine HT.out.mono ?_; rintro e w' ⟨rfl, rfl⟩)
  exact bodyPost_ret (results_tmp2 rfl _ _ _) rfl ⟨rfl, rfl⟩
theorem last_nobody {w : World} {v : Value} (hv : NoChain w v) : Calls Try.prog 20 #[v] w fun e w' => e = .returned (.tuple #[.int .i64 0, .bool false]) ∧ w = w' := by
  have HT := Aside0.mk (len_nobody hv)
  clear hv
  go_enter Try.func20, Try.ntmps20
  go_wp2_with (go_at_call 21; refine HT.out.mono ?_; rintro e w' ⟨rfl, rfl⟩)
  exact bodyPost_ret (results_tmp2 rfl _ _ _) rfl ⟨rfl, rfl⟩
theorem first_empty {w : World} {g h N : Nat} (hc : On w g h N []) : Calls Try.prog 19 #[.pointer (some ⟨g, 0, none⟩)] w fun e w' => e = .returned (.tuple #[.int .i64 0, .bool false]) ∧ w = w' := by
  have HT := Aside0.mk (len_on hc)
  clear hc
  simp only [List.length_nil, Int.natCast_zero, Int.ofNat_zero, Int.cast_ofNat_Int, Int.ofNat_eq_natCast] at HT
  go_enter Try.func19, Try.ntmps19
  go_wp2_with (go_at_call 21; refine HT.out.mono ?_; rintro e w' ⟨rfl, rfl⟩)
  exact bodyPost_ret (results_tmp2 rfl _ _ _) rfl ⟨rfl, rfl⟩
theorem last_empty {w : World} {g h N : Nat} (hc : On w g h N []) : Calls Try.prog 20 #[.pointer (some ⟨g, 0, none⟩)] w fun e w' => e = .returned (.tuple #[.int .i64 0, .bool false]) ∧ w = w' := by
  have HT := Aside0.mk (len_on hc)
  clear hc
  simp only [List.length_nil, Int.natCast_zero, Int.ofNat_zero, Int.cast_ofNat_Int, Int.ofNat_eq_natCast] at HT
  go_enter Try.func20, Try.ntmps20
  go_wp2_with (go_at_call 21; refine HT.out.mono ?_; rintro e w' ⟨rfl, rfl⟩)
  exact bodyPost_ret (results_tmp2 rfl _ _ _) rfl ⟨rfl, rfl⟩

theorem first_on {w : World} {g h N a : Nat} {t : List Nat} (hc : On w g h N (a :: t)) : Calls Try.prog 19 #[.pointer (some ⟨g, 0, none⟩)] w fun e w' => e = .returned (.tuple #[.int .i64 (a : Int), .bool true]) ∧ Below w.heap.size w w' := by
  have HT := Aside0.mk (len_on hc)
  have hlen : (((a :: t).length : Nat) : Int) = (t.length : Int) + 1 := by simp
  rw [hlen] at HT
  have hle := hc.le
  obtain ⟨f, hc, hr⟩ := hc
  have hle2 := hc.le
  have h0 := (blk_cell hc.obj 0).trans rfl
  have hB := (hc.links.cells (i := N) (Nat.le_refl N)).2.1
  have hfa : (f N).behind = a := by
    have := hr.next
    simp [Ring.B] at this
    exact this.1
  rw [hfa] at hB
  have HR := Aside0.mk (root_calls hc)
  have HRd := Aside0.mk (root_calls hc.drew)
  have hne : ((t.length : Int) + 1 == 0) = false := by simp; omega
  have hlN : (N : Int) < (N : Int) + 1 := by omega
  clear hc hr
  go_enter Try.func19, Try.ntmps19
  go_wp2_with (go_at_call 21; refine HT.out.mono ?_; rintro e w' ⟨rfl, rfl⟩)
  refine wp_region_any (by kernel_rfl) ?_
  change wpAny _ _ _ _ _ _ _ (World.drew _)
  refine wpAny_take (i := 0) (v := ?_) rfl (by kernel_rfl) (by kernel_rfl) (by kernel_rfl) (fun _ _ _ h => h) (Or.inl ⟨by rfl, ?_⟩) ?_
  rotate_left 1
  · intro w; first | (go_simp; done) | (go_simp; with_reducible rfl)
  refine wpAny_take (i := 1) (v := ?_) rfl (by kernel_rfl) (by kernel_rfl) (by kernel_rfl) (fun _ _ _ h => h) (Or.inl ⟨by rfl, ?_⟩) ?_
  rotate_left 1
  · intro w; first | (go_simp; done) | (go_simp; with_reducible rfl)
  refine wpAny_take (i := 2) (v := ?_) rfl (by kernel_rfl) (by kernel_rfl) (by kernel_rfl) (fun _ _ _ h => h) (Or.inl ⟨by rfl, ?_⟩) ?_
  rotate_left 1
  · intro w; first | (go_simp; done) | (go_simp; with_reducible rfl)
  refine wpAny_take (i := 4) (v := ?_) rfl (by kernel_rfl) (by kernel_rfl) (by kernel_rfl) (fun _ _ _ h => h) (Or.inl ⟨by rfl, ?_⟩) ?_
  rotate_left 1
  · intro w; first | (go_simp; done) | (go_simp; with_reducible rfl)
  refine wpAny_ready (rs := [3, 5]) (by kernel_rfl) (by simp) ?_
  refine AllReady.cons rfl (fun K hK => ?_) ?_
  · skip
    go_simp
    refine hK _ _ ?_
    clear hK K
    refine wpAny_ready (rs := [5]) (by kernel_rfl) (by simp) ?_
    refine AllReady.cons rfl (fun K hK => ?_) AllReady.nil
    go_simp
    refine HRd.out.mono ?_
    rintro e w' ⟨rfl, rfl⟩
    go_simp
    refine hK _ _ ?_
    clear hK K
    refine wpAny_take (i := 6) (v := ?_) rfl (by kernel_rfl) (by kernel_rfl) (by kernel_rfl) (fun _ _ _ h => h) (Or.inl ⟨by rfl, ?_⟩) ?_
    rotate_left 1
    · intro w; first | (go_simp; done) | (go_simp; with_reducible rfl)
    refine wpAny_take (i := 7) (v := ?_) rfl (by kernel_rfl) (by kernel_rfl) (by kernel_rfl) (fun _ _ _ h => h) (Or.inl ⟨by rfl, ?_⟩) ?_
    rotate_left 1
    · intro w; first | (go_simp; done) | (go_simp; with_reducible rfl)
    refine wpAny_ready (rs := [8]) (by kernel_rfl) (by simp) ?_
    refine AllReady.cons rfl (fun K hK => ?_) AllReady.nil
    go_simp
    refine hK _ _ ?_
    clear hK K
    refine wpAny_take (i := 9) (v := ?_) rfl (by kernel_rfl) (by kernel_rfl) (by kernel_rfl) (fun _ _ _ h => h) (Or.inl ⟨by rfl, ?_⟩) ?_
    rotate_left 1
    · intro w; first | (go_simp; done) | (go_simp; with_reducible rfl)
    refine wpAny_take (i := 10) (v := ?_) rfl (by kernel_rfl) (by kernel_rfl) (by kernel_rfl) (fun _ _ _ h => h) (Or.inl ⟨by rfl, ?_⟩) ?_
    rotate_left 1
    · intro w; first | (go_simp; done) | (go_simp; with_reducible rfl)
    refine wpAny_done (by kernel_rfl) ?_ _
    try go_simp
    go_wp2_with fail
    exact bodyPost_ret (results_tmp2 rfl _ _ _) rfl ⟨rfl, ((Keeps.refl (fun _ => False) _).drew).below (Nat.le_refl _) (fun _ h => h.elim)⟩
  refine AllReady.cons rfl (fun K hK => ?_) AllReady.nil
  go_simp
  refine HRd.out.mono ?_
  rintro e w' ⟨rfl, rfl⟩
  go_simp
  refine hK _ _ ?_
  clear hK K
  refine wpAny_ready (rs := [3]) (by kernel_rfl) (by simp) ?_
  refine AllReady.cons rfl (fun K hK => ?_) AllReady.nil
  go_simp
  refine hK _ _ ?_
  clear hK K
  refine wpAny_take (i := 6) (v := ?_) rfl (by kernel_rfl) (by kernel_rfl) (by kernel_rfl) (fun _ _ _ h => h) (Or.inl ⟨by rfl, ?_⟩) ?_
  rotate_left 1
  · intro w; first | (go_simp; done) | (go_simp; with_reducible rfl)
  refine wpAny_take (i := 7) (v := ?_) rfl (by kernel_rfl) (by kernel_rfl) (by kernel_rfl) (fun _ _ _ h => h) (Or.inl ⟨by rfl, ?_⟩) ?_
  rotate_left 1
  · intro w; first | (go_simp; done) | (go_simp; with_reducible rfl)
  refine wpAny_ready (rs := [8]) (by kernel_rfl) (by simp) ?_
  refine AllReady.cons rfl (fun K hK => ?_) AllReady.nil
  go_simp
  refine hK _ _ ?_
  clear hK K
  refine wpAny_take (i := 9) (v := ?_) rfl (by kernel_rfl) (by kernel_rfl) (by kernel_rfl) (fun _ _ _ h => h) (Or.inl ⟨by rfl, ?_⟩) ?_
  rotate_left 1
  · intro w; first | (go_simp; done) | (go_simp; with_reducible rfl)
  refine wpAny_take (i := 10) (v := ?_) rfl (by kernel_rfl) (by kernel_rfl) (by kernel_rfl) (fun _ _ _ h => h) (Or.inl ⟨by rfl, ?_⟩) ?_
  rotate_left 1
  · intro w; first | (go_simp; done) | (go_simp; with_reducible rfl)
  refine wpAny_done (by kernel_rfl) ?_ _
  try go_simp
  go_wp2_with fail
  exact bodyPost_ret (results_tmp2 rfl _ _ _) rfl ⟨rfl, ((Keeps.refl (fun _ => False) _).drew).below (Nat.le_refl _) (fun _ h => h.elim)⟩

theorem last_on {w : World} {g h N a : Nat} {t : List Nat} (hc : On w g h N (t ++ [a])) : Calls Try.prog 20 #[.pointer (some ⟨g, 0, none⟩)] w fun e w' => e = .returned (.tuple #[.int .i64 (a : Int), .bool true]) ∧ Below w.heap.size w w' := by
  have HT := Aside0.mk (len_on hc)
  have hlen : (((t ++ [a]).length : Nat) : Int) = (t.length : Int) + 1 := by simp
  rw [hlen] at HT
  have hle := hc.le
  obtain ⟨f, hc, hr⟩ := hc
  have hle2 := hc.le
  have h0 := (blk_cell hc.obj 0).trans rfl
  have hB := (hc.links.cells (i := N) (Nat.le_refl N)).1
  have hfa : (f N).ahead = a := by
    have h1 := hr.prev
    rw [List.map_append, ← List.cons_append] at h1
    exact (List.append_inj' h1 rfl).2 |> fun h => by simpa [Ring.A] using h
  rw [hfa] at hB
  have HR := Aside0.mk (root_calls hc)
  have HRd := Aside0.mk (root_calls hc.drew)
  have hne : ((t.length : Int) + 1 == 0) = false := by simp; omega
  have hlN : (N : Int) < (N : Int) + 1 := by omega
  clear hc hr
  go_enter Try.func20, Try.ntmps20
  go_wp2_with (go_at_call 21; refine HT.out.mono ?_; rintro e w' ⟨rfl, rfl⟩)
  refine wp_region_any (by kernel_rfl) ?_
  change wpAny _ _ _ _ _ _ _ (World.drew _)
  refine wpAny_take (i := 0) (v := ?_) rfl (by kernel_rfl) (by kernel_rfl) (by kernel_rfl) (fun _ _ _ h => h) (Or.inl ⟨by rfl, ?_⟩) ?_
  rotate_left 1
  · intro w; first | (go_simp; done) | (go_simp; with_reducible rfl)
  refine wpAny_take (i := 1) (v := ?_) rfl (by kernel_rfl) (by kernel_rfl) (by kernel_rfl) (fun _ _ _ h => h) (Or.inl ⟨by rfl, ?_⟩) ?_
  rotate_left 1
  · intro w; first | (go_simp; done) | (go_simp; with_reducible rfl)
  refine wpAny_take (i := 2) (v := ?_) rfl (by kernel_rfl) (by kernel_rfl) (by kernel_rfl) (fun _ _ _ h => h) (Or.inl ⟨by rfl, ?_⟩) ?_
  rotate_left 1
  · intro w; first | (go_simp; done) | (go_simp; with_reducible rfl)
  refine wpAny_take (i := 4) (v := ?_) rfl (by kernel_rfl) (by kernel_rfl) (by kernel_rfl) (fun _ _ _ h => h) (Or.inl ⟨by rfl, ?_⟩) ?_
  rotate_left 1
  · intro w; first | (go_simp; done) | (go_simp; with_reducible rfl)
  refine wpAny_ready (rs := [3, 5]) (by kernel_rfl) (by simp) ?_
  refine AllReady.cons rfl (fun K hK => ?_) ?_
  · skip
    go_simp
    refine hK _ _ ?_
    clear hK K
    refine wpAny_ready (rs := [5]) (by kernel_rfl) (by simp) ?_
    refine AllReady.cons rfl (fun K hK => ?_) AllReady.nil
    go_simp
    refine HRd.out.mono ?_
    rintro e w' ⟨rfl, rfl⟩
    go_simp
    refine hK _ _ ?_
    clear hK K
    refine wpAny_take (i := 6) (v := ?_) rfl (by kernel_rfl) (by kernel_rfl) (by kernel_rfl) (fun _ _ _ h => h) (Or.inl ⟨by rfl, ?_⟩) ?_
    rotate_left 1
    · intro w; first | (go_simp; done) | (go_simp; with_reducible rfl)
    refine wpAny_take (i := 7) (v := ?_) rfl (by kernel_rfl) (by kernel_rfl) (by kernel_rfl) (fun _ _ _ h => h) (Or.inl ⟨by rfl, ?_⟩) ?_
    rotate_left 1
    · intro w; first | (go_simp; done) | (go_simp; with_reducible rfl)
    refine wpAny_ready (rs := [8]) (by kernel_rfl) (by simp) ?_
    refine AllReady.cons rfl (fun K hK => ?_) AllReady.nil
    go_simp
    refine hK _ _ ?_
    clear hK K
    refine wpAny_take (i := 9) (v := ?_) rfl (by kernel_rfl) (by kernel_rfl) (by kernel_rfl) (fun _ _ _ h => h) (Or.inl ⟨by rfl, ?_⟩) ?_
    rotate_left 1
    · intro w; first | (go_simp; done) | (go_simp; with_reducible rfl)
    refine wpAny_take (i := 10) (v := ?_) rfl (by kernel_rfl) (by kernel_rfl) (by kernel_rfl) (fun _ _ _ h => h) (Or.inl ⟨by rfl, ?_⟩) ?_
    rotate_left 1
    · intro w; first | (go_simp; done) | (go_simp; with_reducible rfl)
    refine wpAny_done (by kernel_rfl) ?_ _
    try go_simp
    go_wp2_with fail
    exact bodyPost_ret (results_tmp2 rfl _ _ _) rfl ⟨rfl, ((Keeps.refl (fun _ => False) _).drew).below (Nat.le_refl _) (fun _ h => h.elim)⟩
  refine AllReady.cons rfl (fun K hK => ?_) AllReady.nil
  go_simp
  refine HRd.out.mono ?_
  rintro e w' ⟨rfl, rfl⟩
  go_simp
  refine hK _ _ ?_
  clear hK K
  refine wpAny_ready (rs := [3]) (by kernel_rfl) (by simp) ?_
  refine AllReady.cons rfl (fun K hK => ?_) AllReady.nil
  go_simp
  refine hK _ _ ?_
  clear hK K
  refine wpAny_take (i := 6) (v := ?_) rfl (by kernel_rfl) (by kernel_rfl) (by kernel_rfl) (fun _ _ _ h => h) (Or.inl ⟨by rfl, ?_⟩) ?_
  rotate_left 1
  · intro w; first | (go_simp; done) | (go_simp; with_reducible rfl)
  refine wpAny_take (i := 7) (v := ?_) rfl (by kernel_rfl) (by kernel_rfl) (by kernel_rfl) (fun _ _ _ h => h) (Or.inl ⟨by rfl, ?_⟩) ?_
  rotate_left 1
  · intro w; first | (go_simp; done) | (go_simp; with_reducible rfl)
  refine wpAny_ready (rs := [8]) (by kernel_rfl) (by simp) ?_
  refine AllReady.cons rfl (fun K hK => ?_) AllReady.nil
  go_simp
  refine hK _ _ ?_
  clear hK K
  refine wpAny_take (i := 9) (v := ?_) rfl (by kernel_rfl) (by kernel_rfl) (by kernel_rfl) (fun _ _ _ h => h) (Or.inl ⟨by rfl, ?_⟩) ?_
  rotate_left 1
  · intro w; first | (go_simp; done) | (go_simp; with_reducible rfl)
  refine wpAny_take (i := 10) (v := ?_) rfl (by kernel_rfl) (by kernel_rfl) (by kernel_rfl) (fun _ _ _ h => h) (Or.inl ⟨by rfl, ?_⟩) ?_
  rotate_left 1
  · intro w; first | (go_simp; done) | (go_simp; with_reducible rfl)
  refine wpAny_done (by kernel_rfl) ?_ _
  try go_simp
  go_wp2_with fail
  exact bodyPost_ret (results_tmp2 rfl _ _ _) rfl ⟨rfl, ((Keeps.refl (fun _ => False) _).drew).below (Nat.le_refl _) (fun _ h => h.elim)⟩


theorem row_empty {w : World} {v : Value} (hc : Calls Try.prog 21 #[v] w fun e w' => e = .returned (.int .i64 0) ∧ w = w') : Calls Try.prog 8 #[v] w fun e w' => e = .returned (.slice none 0 0) ∧ w = w' := by
  have HT := Aside0.mk hc
  clear hc
  go_enter Try.func8, Try.ntmps8
  go_wp2_with (go_at_call 21; refine HT.out.mono ?_; rintro e w' ⟨rfl, rfl⟩)
  go_ret
  exact ⟨by simp, rfl⟩
end Go.Proofs.Ytcncninjnickoaa.Chain
