/- The row of a chain. -/
import Derived.Test.YtcncninjnickoaaChain4
import Derived.LoopTactic
namespace Go.Proofs.Ytcncninjnickoaa.Chain
open Go.RowKit Go.Proofs.YtcncninjnickoaaW.PrintWords Go.Proofs.YtcncninjnickoaaW.PrintLast Go.Proofs.YtcncninjnickoaaW.PrintMore
open Go.Proofs.Ytcncninjnickoaa Go.Proofs.Ytcncninjnickoaa.Ring
set_option linter.unusedVariables false
set_option linter.unusedSimpArgs false

def ints (l : List Nat) : List Int := l.map Int.ofNat
def hd (q : List Nat) (N : Nat) : Nat := match q with | [] => N | a :: _ => a

theorem hd_next {f : Links} {N : Nat} {p t : List Nat} {a : Nat} (hr : Ring f N (p ++ a :: t)) : (f a).behind = hd t N := by
  have h := (split_next hr.next).2
  cases t with
  | nil => simpa [Ring.B, hd] using h
  | cons b u =>
    simp [Ring.B] at h
    simpa [hd] using h.1
theorem hd_first {f : Links} {N : Nat} {q : List Nat} (hr : Ring f N q) : (f N).behind = hd q N := by
  have h := hr.next
  cases q with
  | nil => simpa [Ring.B, hd] using h
  | cons b u =>
    simp [Ring.B] at h
    simpa [hd] using h.1
theorem info_int : (Try.prog.info? 3).map (fun i => (i.zero, i.size, i.bytes)) = some (some (.int .i64 0), 1, 8) := by kernel_rfl

set_option maxHeartbeats 2000000 in
theorem row_on {w : World} {g h N : Nat} {row : List Nat} (hc : On w g h N row) (hne : row ≠ []) : Calls Try.prog 8 #[.pointer (some ⟨g, 0, none⟩)] w fun e w' => ∃ v, e = .returned v ∧ Kd.R (Kd.int .i64) 3 w' w.heap.size (fun _ => True) v (ints row) ∧ Below w.heap.size w w' := by
  have HT := Aside0.mk (len_on hc)
  have hl0 : ((row.length : Int) == 0) = false := by
    have := List.length_pos_iff.2 hne
    simp; omega
  have hle := hc.le
  obtain ⟨f, hc, hr⟩ := hc
  have hle2 := hc.le
  have h0 := (blk_cell hc.obj 0).trans rfl
  have hB := (hc.links.cells (i := N) (Nat.le_refl N)).2.1
  rw [hd_first hr] at hB
  have HRd := Aside0.mk (root_calls hc.drew)
  have hlN : (N : Int) < (N : Int) + 1 := by omega
  have HC := Aside0.mk hc
  have HR := Aside0.mk hr
  clear hc hr
  go_enter Try.func8, Try.ntmps8
  go_wp2_with (go_at_call 21; refine HT.out.mono ?_; rintro e w' ⟨rfl, rfl⟩)
  refine wp_region_any (by kernel_rfl) ?_
  change wpAny _ _ _ _ _ _ _ (World.drew _)
  refine wpAny_take (i := 0) (v := ?_) rfl (by kernel_rfl) (by kernel_rfl) (by kernel_rfl) (fun _ _ _ h => h) (Or.inl ⟨by rfl, ?_⟩) ?_
  rotate_left 1
  · intro w; first | (go_simp; done) | (go_simp; with_reducible rfl)
  refine wpAny_take (i := 1) (v := ?_) rfl (by kernel_rfl) (by kernel_rfl) (by kernel_rfl) (fun _ _ _ h => h) (Or.inl ⟨by rfl, ?_⟩) ?_
  rotate_left 1
  · intro w; first | (go_simp; done) | (go_simp; with_reducible rfl)
  refine wpAny_take (i := 2) (v := ?_) rfl (by kernel_rfl) (by kernel_rfl) (by kernel_rfl) (fun _ _ _ h => h) (Or.inl ⟨by rfl, ?_⟩) ?_
  rotate_left 1
  · intro w; first | (go_simp; done) | (go_simp; with_reducible rfl)
  refine wpAny_take (i := 4) (v := ?_) rfl (by kernel_rfl) (by kernel_rfl) (by kernel_rfl) (fun _ _ _ h => h) (Or.inl ⟨by rfl, ?_⟩) ?_
  rotate_left 1
  · intro w; first | (go_simp; done) | (go_simp; with_reducible rfl)
  refine wpAny_ready (rs := [3, 5]) (by kernel_rfl) (by simp) ?_
  refine AllReady.cons rfl (fun K hK => ?_) ?_
  · skip
    go_simp
    refine hK _ _ ?_
    clear hK K
    refine wpAny_ready (rs := [5]) (by kernel_rfl) (by simp) ?_
    refine AllReady.cons rfl (fun K hK => ?_) AllReady.nil
    go_simp
    refine HRd.out.mono ?_
    rintro e w' ⟨rfl, rfl⟩
    go_simp
    refine hK _ _ ?_
    clear hK K
    refine wpAny_take (i := 6) (v := ?_) rfl (by kernel_rfl) (by kernel_rfl) (by kernel_rfl) (fun _ _ _ h => h) (Or.inl ⟨by rfl, ?_⟩) ?_
    rotate_left 1
    · intro w; first | (go_simp; done) | (go_simp; with_reducible rfl)
    refine wpAny_take (i := 7) (v := ?_) rfl (by kernel_rfl) (by kernel_rfl) (by kernel_rfl) (fun _ _ _ h => h) (Or.inl ⟨by rfl, ?_⟩) ?_
    rotate_left 1
    · intro w; first | (go_simp; done) | (go_simp; with_reducible rfl)
    refine wpAny_ready (rs := [8]) (by kernel_rfl) (by simp) ?_
    refine AllReady.cons rfl (fun K hK => ?_) AllReady.nil
    go_simp
    refine hK _ _ ?_
    clear hK K
    refine wpAny_take (i := 9) (v := ?_) rfl (by kernel_rfl) (by kernel_rfl) (by kernel_rfl) (fun _ _ _ h => h) (Or.inl ⟨by rfl, ?_⟩) ?_
    rotate_left 1
    · intro w; first | (go_simp; done) | (go_simp; with_reducible rfl)
    refine wpAny_done (by kernel_rfl) ?_ _
    try go_simp
    have HB := Aside0.mk (((Keeps.refl (fun _ => False) w).drew).below (Nat.le_refl _) (fun _ h => h.elim))
    clear h0 hB HRd
    go_wp2_with fail
    go_loopg [3, 4] (row.length + 1) (fun kq v3 v4 w' => ∃ (p q : List Nat), v4 = .int .i64 ((hd q N : Nat) : Int) ∧ Aside0 (row = p ++ q ∧ kq = q.length + 1) ∧ Aside0 (Kd.R (Kd.int .i64) 3 w' w.heap.size (fun _ => True) v3 (ints p)) ∧ Aside0 (Below w.heap.size w w'))
    case atStart => exact ⟨[], row, rfl, ⟨rfl, rfl⟩, ⟨Kd.R_nil _ _ _ _ _⟩, HB⟩
    case round =>
      clear HB
      obtain ⟨p, q, rfl, HQ, HO, HB⟩ := hrel
      cases q with
      | nil =>
        have HRr := Aside0.mk (root_calls (HC.out.below HB.out))
        have hx : ((N : Int) != (N : Int)) = false := by simp
        simp only [hd]
        go_wp2_with (go_at_call 22; refine HRr.out.mono ?_; rintro e w' ⟨rfl, rfl⟩)
        go_ret
        have := HQ.out.1
        rw [List.append_nil] at this
        subst this
        exact ⟨_, rfl, HO.out, HB.out⟩
      | cons a t =>
        have HRr := Aside0.mk (root_calls (HC.out.below HB.out))
        have hR := HR.out
        rw [HQ.out.1] at hR
        have haN : a < N := hR.lt a (by simp)
        have hx : ((a : Int) != (N : Int)) = true := by
          simp only [bne_iff_ne, ne_eq]; omega
        have hlen : p.length ≤ 4096 := by
          have h1 := HQ.out.1
          have h2 := congrArg List.length h1
          simp only [List.length_append, List.length_cons] at h2
          omega
        have hlen2 : (ints p).length ≤ 4096 := by simpa [ints] using hlen
        have hnx := hd_next hR
        have hB := (HC.out.links.cells (i := a) (Nat.le_of_lt haN)).2.1
        rw [hnx] at hB
        have h0 := (blk_cell HC.out.obj 0).trans rfl
        have l0 := HC.out.lt
        have H0 := Aside0.mk h0
        have HB0 := Aside0.mk hB
        have hak : (a : Int) < (N : Int) + 1 := by omega
        clear hR hnx h0 hB
        simp only [hd]
        go_wp2_with (first | (go_at_call 22; refine HRr.out.mono ?_; rintro e w' ⟨rfl, rfl⟩) | (guard_target = wpList _ _ _ (Oper.mk (some 32) _ _ _ _ _ :: _) _ _; refine Aside0.out ?_))
        refine Aside0.mk ?_
        with_reducible refine gate_builtin (b := .append) (xs := #[.tmp 29, .tmp 31]) rfl ?_
        at_builtin
        refine Kd.R_append (Kd.int .i64) (w0 := w) w.heap.size rfl (.tmp 29) (.tmp 31) 30 3 (.int .i64 0) 8 rfl Try.underlying30 info_int rfl (by decide) (by omega) u3 (ints p) (a : Int) [.int .i64 (a : Int)] (fun _ => True) (fun _ => False) rfl rfl ?aP (fun _ hk => hk.elim) ?aF ?aO ?aB ?aS ?aL ?_
        case aP => exact rfl
        case aB => exact HB.out
        case aF => exact (fun _ _ => trivial)
        case aO => exact HO.out
        case aS => exact (below_size HB.out)
        case aL => omega
        intro v112 w9 ho hb hg hat
        have HO2 := Aside0.mk ho; have HB2 := Aside0.mk hb; have h0 := (hb.cell (World.block_lt_of_cell? w _ H0.out)).trans H0.out; have hB := (hb.cell (World.block_lt_of_cell? w _ HB0.out)).trans HB0.out; clear ho hb hg hat
        go_wp2_with fail
        go_roundg (t.length + 1)
        case measure =>
          have := HQ.out.2
          simp only [List.length_cons] at this
          omega
        case rel =>
          refine ⟨p ++ [a], t, rfl, ⟨by rw [HQ.out.1]; simp, rfl⟩, ⟨?_⟩, HB2⟩
          have h1 : ints (p ++ [a]) = ints p ++ [(a : Int)] := by simp [ints]
          rw [h1]
          exact HO2.out
  refine AllReady.cons rfl (fun K hK => ?_) AllReady.nil
  go_simp
  refine HRd.out.mono ?_
  rintro e w' ⟨rfl, rfl⟩
  go_simp
  refine hK _ _ ?_
  clear hK K
  refine wpAny_ready (rs := [3]) (by kernel_rfl) (by simp) ?_
  refine AllReady.cons rfl (fun K hK => ?_) AllReady.nil
  go_simp
  refine hK _ _ ?_
  clear hK K
  refine wpAny_take (i := 6) (v := ?_) rfl (by kernel_rfl) (by kernel_rfl) (by kernel_rfl) (fun _ _ _ h => h) (Or.inl ⟨by rfl, ?_⟩) ?_
  rotate_left 1
  · intro w; first | (go_simp; done) | (go_simp; with_reducible rfl)
  refine wpAny_take (i := 7) (v := ?_) rfl (by kernel_rfl) (by kernel_rfl) (by kernel_rfl) (fun _ _ _ h => h) (Or.inl ⟨by rfl, ?_⟩) ?_
  rotate_left 1
  · intro w; first | (go_simp; done) | (go_simp; with_reducible rfl)
  refine wpAny_ready (rs := [8]) (by kernel_rfl) (by simp) ?_
  refine AllReady.cons rfl (fun K hK => ?_) AllReady.nil
  go_simp
  refine hK _ _ ?_
  clear hK K
  refine wpAny_take (i := 9) (v := ?_) rfl (by kernel_rfl) (by kernel_rfl) (by kernel_rfl) (fun _ _ _ h => h) (Or.inl ⟨by rfl, ?_⟩) ?_
  rotate_left 1
  · intro w; first | (go_simp; done) | (go_simp; with_reducible rfl)
  refine wpAny_done (by kernel_rfl) ?_ _
  try go_simp
  have HB := Aside0.mk (((Keeps.refl (fun _ => False) w).drew).below (Nat.le_refl _) (fun _ h => h.elim))
  clear h0 hB HRd
  go_wp2_with fail
  go_loopg [3, 4] (row.length + 1) (fun kq v3 v4 w' => ∃ (p q : List Nat), v4 = .int .i64 ((hd q N : Nat) : Int) ∧ Aside0 (row = p ++ q ∧ kq = q.length + 1) ∧ Aside0 (Kd.R (Kd.int .i64) 3 w' w.heap.size (fun _ => True) v3 (ints p)) ∧ Aside0 (Below w.heap.size w w'))
  case atStart => exact ⟨[], row, rfl, ⟨rfl, rfl⟩, ⟨Kd.R_nil _ _ _ _ _⟩, HB⟩
  case round =>
    clear HB
    obtain ⟨p, q, rfl, HQ, HO, HB⟩ := hrel
    cases q with
    | nil =>
      have HRr := Aside0.mk (root_calls (HC.out.below HB.out))
      have hx : ((N : Int) != (N : Int)) = false := by simp
      simp only [hd]
      go_wp2_with (go_at_call 22; refine HRr.out.mono ?_; rintro e w' ⟨rfl, rfl⟩)
      go_ret
      have := HQ.out.1
      rw [List.append_nil] at this
      subst this
      exact ⟨_, rfl, HO.out, HB.out⟩
    | cons a t =>
      have HRr := Aside0.mk (root_calls (HC.out.below HB.out))
      have hR := HR.out
      rw [HQ.out.1] at hR
      have haN : a < N := hR.lt a (by simp)
      have hx : ((a : Int) != (N : Int)) = true := by
        simp only [bne_iff_ne, ne_eq]; omega
      have hlen : p.length ≤ 4096 := by
        have h1 := HQ.out.1
        have h2 := congrArg List.length h1
        simp only [List.length_append, List.length_cons] at h2
        omega
      have hlen2 : (ints p).length ≤ 4096 := by simpa [ints] using hlen
      have hnx := hd_next hR
      have hB := (HC.out.links.cells (i := a) (Nat.le_of_lt haN)).2.1
      rw [hnx] at hB
      have h0 := (blk_cell HC.out.obj 0).trans rfl
      have l0 := HC.out.lt
      have H0 := Aside0.mk h0
      have HB0 := Aside0.mk hB
      have hak : (a : Int) < (N : Int) + 1 := by omega
      clear hR hnx h0 hB
      simp only [hd]
      go_wp2_with (first | (go_at_call 22; refine HRr.out.mono ?_; rintro e w' ⟨rfl, rfl⟩) | (guard_target = wpList _ _ _ (Oper.mk (some 32) _ _ _ _ _ :: _) _ _; refine Aside0.out ?_))
      refine Aside0.mk ?_
      with_reducible refine gate_builtin (b := .append) (xs := #[.tmp 29, .tmp 31]) rfl ?_
      at_builtin
      refine Kd.R_append (Kd.int .i64) (w0 := w) w.heap.size rfl (.tmp 29) (.tmp 31) 30 3 (.int .i64 0) 8 rfl Try.underlying30 info_int rfl (by decide) (by omega) u3 (ints p) (a : Int) [.int .i64 (a : Int)] (fun _ => True) (fun _ => False) rfl rfl ?aP (fun _ hk => hk.elim) ?aF ?aO ?aB ?aS ?aL ?_
      case aP => exact rfl
      case aB => exact HB.out
      case aF => exact (fun _ _ => trivial)
      case aO => exact HO.out
      case aS => exact (below_size HB.out)
      case aL => omega
      intro v112 w9 ho hb hg hat
      have HO2 := Aside0.mk ho; have HB2 := Aside0.mk hb; have h0 := (hb.cell (World.block_lt_of_cell? w _ H0.out)).trans H0.out; have hB := (hb.cell (World.block_lt_of_cell? w _ HB0.out)).trans HB0.out; clear ho hb hg hat
      go_wp2_with fail
      go_roundg (t.length + 1)
      case measure =>
        have := HQ.out.2
        simp only [List.length_cons] at this
        omega
      case rel =>
        refine ⟨p ++ [a], t, rfl, ⟨by rw [HQ.out.1]; simp, rfl⟩, ⟨?_⟩, HB2⟩
        have h1 : ints (p ++ [a]) = ints p ++ [(a : Int)] := by simp [ints]
        rw [h1]
        exact HO2.out
end Go.Proofs.Ytcncninjnickoaa.Chain
