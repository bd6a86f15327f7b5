/- A reader's methods: Open, spoil, Raw, Left, Err, End. -/
import Derived.Test.YtceaddpbebaldaaWord
namespace Go.Proofs.Ytceaddpbebaldaa.Word
open Go.RowKit Go.Proofs.YtceaddpbebaldaaW.PrintWords Go.Proofs.YtceaddpbebaldaaW.PrintLast Go.Proofs.YtceaddpbebaldaaW.PrintMore
open Go.Proofs.Ytceaddpbebaldaa Go.Proofs.Ytceaddpbebaldaa.Vals
set_option linter.unusedVariables false
set_option linter.unusedSimpArgs false

structure Rd (w : World) (g : Nat) (bs : List Int) (e : Int) : Prop where
  ex : ∃ v, w.heap[g]? = some (.cells #[v, .int .i64 e] 60 (0, 0)) ∧ Bys bs v w ∧ (∀ k, v.ownBlock = some k → k ≠ g)
  le : bs.length ≤ 140737488351232

theorem Rd.lt {w : World} {g : Nat} {bs : List Int} {e : Int} (h : Rd w g bs e) : g < w.heap.size := by
  obtain ⟨v, h1, _⟩ := h.ex
  exact blk_lt h1
theorem Rd.below {w w' : World} {g : Nat} {bs : List Int} {e : Int} (h : Rd w g bs e) (hb : Below w.heap.size w w') : Rd w' g bs e := by
  obtain ⟨v, h1, h2, h3⟩ := h.ex
  exact ⟨⟨v, (hb.block g (blk_lt h1)).trans h1, h2.mono hb, h3⟩, h.le⟩
/-- The reader's cells are given new values. -/
theorem Rd.set {w : World} {g : Nat} {v v' : Value} {e e' : Int} {bs' : List Int} (h1 : w.heap[g]? = some (.cells #[v, .int .i64 e] 60 (0, 0))) (h2 : Bys bs' v' w) (h3 : ∀ k, v'.ownBlock = some k → k ≠ g) (hl : bs'.length ≤ 140737488351232) {w' : World}
    (hw : w'.heap[g]? = some (.cells #[v', .int .i64 e'] 60 (0, 0))) (hk : Keeps (fun k => k = g) w w') : Rd w' g bs' e' :=
  ⟨⟨v', hw, IsL.keeps (w := w) (w' := w') (S := fun k => k = g) (d := Kd.int .u8) (fun x cs h => h) h2 hk (fun k hk h => h3 k hk h), h3⟩, hl⟩

theorem open_calls {w : World} {v : Value} {bs : List Int} (h : Bys bs v w) (hl : bs.length ≤ 140737488351232) : Calls Try.prog 13 #[v] w fun e w' => ∃ g, e = .returned (.pointer (some ⟨g, 0, none⟩)) ∧ Rd w' g bs 0 ∧ Below w.heap.size w w' ∧ w.heap.size ≤ g := by
  have HCL := Aside0.mk (clone_calls h hl)
  clear h
  go_enter Try.func13, Try.ntmps13
  go_wp2_with fail
  refine HCL.out.mono ?_
  rintro e w1 ⟨v1, rfl, hR, hb⟩
  have HB := Aside0.mk hb
  have HLT := Aside0.mk (Kd.R_lt hR)
  obtain ⟨A, c, rfl, hc, hC⟩ := Kd.R_reads hR
  have HI := Aside0.mk (show Bys bs _ _ from ⟨A, c, rfl, hc, hC⟩)
  clear hR hb hc hC
  go_wp2_with fail
  go_ret
  refine ⟨w1.heap.size, rfl, ⟨⟨_, blk_new _ _, IsL.mono HI.out (below_alloc (Below.refl _ _) _), ?_⟩, hl⟩, below_alloc HB.out _, HB.out.size⟩
  intro k hk h
  have := HLT.out k hk
  omega

theorem spoil_calls {w : World} {g : Nat} {bs : List Int} {e : Int} (h : Rd w g bs e) (r : Int) : Calls Try.prog 29 #[.pointer (some ⟨g, 0, none⟩), .int .i64 r] w fun en w' => (∃ v, en = .returned v) ∧ Rd w' g [] (if e = 0 then r else e) ∧ Keeps (fun k => k = g) w w' := by
  obtain ⟨v, h1, h2, h3⟩ := h.ex
  have h0 := (blk_cell h1 0).trans rfl
  have he := (blk_cell h1 1).trans rfl
  have f0 := blk_frozen h1 0
  have f1 := blk_frozen h1 1
  have H1 := Aside0.mk h1
  clear h h1 h2 h3
  by_cases h : e = 0
  · subst h
    go_enter Try.func29, Try.ntmps29
    go_wp2_with fail
    refine bodyPost_end (results_none rfl _ _ _) rfl ⟨⟨_, rfl⟩, ?_, ?_⟩
    · exact Rd.set H1.out (v' := .slice none 0 0) (bs' := []) (IsL.nil _ _) (fun k hk => by simp [Value.ownBlock] at hk) (by simp) ((blk_set (blk_set H1.out _ _) _ _).trans rfl) (((Keeps.refl (fun k => k = g) w).set (p := ⟨g, 1, none⟩) (Or.inl rfl) _).set (p := ⟨g, 0, none⟩) (Or.inl rfl) _)
    · exact ((Keeps.refl (fun k => k = g) w).set (p := ⟨g, 1, none⟩) (Or.inl rfl) _).set (p := ⟨g, 0, none⟩) (Or.inl rfl) _
  · have e1 : (e == 0) = false := by simp [h]
    rw [if_neg h]
    go_enter Try.func29, Try.ntmps29
    go_wp2_with fail
    refine bodyPost_end (results_none rfl _ _ _) rfl ⟨⟨_, rfl⟩, ?_, ?_⟩
    · exact Rd.set H1.out (v' := .slice none 0 0) (bs' := []) (IsL.nil _ _) (fun k hk => by simp [Value.ownBlock] at hk) (by simp) ((blk_set H1.out _ _).trans rfl) ((Keeps.refl (fun k => k = g) w).set (p := ⟨g, 0, none⟩) (Or.inl rfl) _)
    · exact (Keeps.refl (fun k => k = g) w).set (p := ⟨g, 0, none⟩) (Or.inl rfl) _

theorem left_calls {w : World} {g : Nat} {bs : List Int} {e : Int} (h : Rd w g bs e) : Calls Try.prog 23 #[.pointer (some ⟨g, 0, none⟩)] w fun en w' => en = .returned (.int .i64 (bs.length : Int)) ∧ w = w' := by
  obtain ⟨v, h1, ⟨A, c, rfl, hc, hC⟩, h3⟩ := h.ex
  have h0 := (blk_cell h1 0).trans rfl
  clear h h1 h3 hC
  go_enter Try.func23, Try.ntmps23
  go_wp2_with fail
  go_ret
  exact ⟨by simp, rfl⟩
theorem err_calls {w : World} {g : Nat} {bs : List Int} {e : Int} (h : Rd w g bs e) : Calls Try.prog 24 #[.pointer (some ⟨g, 0, none⟩)] w fun en w' => en = .returned (.int .i64 e) ∧ w = w' := by
  obtain ⟨v, h1, h2, h3⟩ := h.ex
  have h0 := (blk_cell h1 1).trans rfl
  clear h h1 h3 h2
  go_enter Try.func24, Try.ntmps24
  go_wp2_with fail
  go_ret
  exact ⟨by simp, rfl⟩
theorem end_calls {w : World} {g : Nat} {bs : List Int} {e : Int} (h : Rd w g bs e) : Calls Try.prog 15 #[.pointer (some ⟨g, 0, none⟩)] w fun en w' => en = .returned (.int .i64 (if e = 0 then (if bs = [] then 0 else 6) else e)) ∧ w = w' := by
  have HE := Aside0.mk (err_calls h)
  obtain ⟨v, h1, ⟨A, c, rfl, hc, hC⟩, h3⟩ := h.ex
  have h0 := (blk_cell h1 0).trans rfl
  clear h h1 h3 hC
  by_cases he : e = 0
  · subst he
    rw [if_pos rfl]
    rcases bs with _ | ⟨b, t⟩
    · rw [if_pos rfl]
      rw [List.length_nil] at h0
      go_enter Try.func15, Try.ntmps15
      go_wp2_with (go_at_call 24; refine HE.out.mono ?_; rintro e w' ⟨rfl, rfl⟩)
      go_ret
      exact ⟨by simp, rfl⟩
    · rw [if_neg (by simp)]
      rw [List.length_cons] at h0
      have d1 : decide ((0 : Int) < ((t.length + 1 : Nat) : Int)) = true := decide_eq_true (by omega)
      have d2 : decide ((0 : Int) < (t.length : Int) + 1) = true := decide_eq_true (by omega)
      go_enter Try.func15, Try.ntmps15
      go_wp2_with (go_at_call 24; refine HE.out.mono ?_; rintro e w' ⟨rfl, rfl⟩)
      go_ret
      exact ⟨by simp, rfl⟩
  · have e1 : (e != 0) = true := by simp [he]
    rw [if_neg he]
    go_enter Try.func15, Try.ntmps15
    go_wp2_with (go_at_call 24; refine HE.out.mono ?_; rintro e w' ⟨rfl, rfl⟩)
    go_ret
    exact ⟨by simp, rfl⟩
end Go.Proofs.Ytceaddpbebaldaa.Word
