/- ChainOnce: a step's call. -/
import Derived.Test.YtcncninjnickoaaChainPlays
import Derived.Test.YtcncninjnickoaaISet
namespace Go.Proofs.Ytcncninjnickoaa.Chain
open Go.RowKit Go.Proofs.YtcncninjnickoaaW.PrintWords Go.Proofs.YtcncninjnickoaaW.PrintLast Go.Proofs.YtcncninjnickoaaW.PrintMore
open Go.Proofs.Ytcncninjnickoaa Go.Proofs.Ytcncninjnickoaa.Ring Go.Proofs.Ytcncninjnickoaa.Vals
set_option linter.unusedVariables false
set_option linter.unusedSimpArgs false

/-- Another row, of the same numbers but i, in the same order. -/
def Alike (i : Int) (row row' : List Nat) : Prop := row'.filter (fun y : Nat => decide ((y : Int) ≠ i)) = row.filter (fun y : Nat => decide ((y : Int) ≠ i))
theorem Alike.refl (i : Int) (row : List Nat) : Alike i row row := rfl
theorem filter_erase {row : List Nat} (hn : row.Nodup) (k : Nat) : (row.erase k).filter (fun y : Nat => decide ((y : Int) ≠ (k : Int))) = row.filter (fun y : Nat => decide ((y : Int) ≠ (k : Int))) := by
  rw [hn.erase_eq_filter, List.filter_filter]
  apply List.filter_congr
  intro x _
  by_cases e : x = k
  · subst e; simp
  · have : ¬ ((x : Int) = (k : Int)) := by omega
    simp [e, this]
theorem alike_front {row : List Nat} (hn : row.Nodup) (k : Nat) : Alike k row (k :: row.erase k) := by
  unfold Alike
  rw [← filter_erase hn k]
  simp
theorem alike_back {row : List Nat} (hn : row.Nodup) (k : Nat) : Alike k row (row.erase k ++ [k]) := by
  unfold Alike
  rw [← filter_erase hn k]
  simp
theorem alike_cut {row : List Nat} (hn : row.Nodup) (k : Nat) : Alike k row (row.erase k) := filter_erase hn k

def StepPost (w : World) (g h N : Nat) (row : List Nat) (i : Int) (e : Ending) (w' : World) : Prop := (∃ v, e = .returned v) ∧ ∃ row', On w' g h N row' ∧ Alike i row row' ∧ Keeps (SetOf g h) w w'

theorem place_cases (i : Int) (N : Nat) : (∃ k : Nat, i = (k : Int) ∧ k < N) ∨ (i < 0 ∨ (N : Int) ≤ i) := by
  by_cases h : i < 0 ∨ (N : Int) ≤ i
  · exact Or.inr h
  · exact Or.inl ⟨i.toNat, by omega, by omega⟩
theorem front_any {w : World} {g h N : Nat} {row : List Nat} (hc : On w g h N row) (i : Int) : Calls Try.prog 12 #[.pointer (some ⟨g, 0, none⟩), .int .i64 i] w (StepPost w g h N row i) := by
  rcases place_cases i N with ⟨k, rfl, hk⟩ | hb
  · refine (front_in hc hk).mono ?_
    rintro e w' ⟨rfl, h1, h2⟩
    exact ⟨⟨_, rfl⟩, _, h1, alike_front (On.nodup hc) k, h2⟩
  · obtain ⟨f, hc', hr⟩ := hc
    refine (front_bad (r := 4) (by decide) (there_out hc' hb)).mono ?_
    rintro e w' ⟨rfl, rfl⟩
    exact ⟨⟨_, rfl⟩, _, ⟨f, hc', hr⟩, Alike.refl _ _, Keeps.refl _ _⟩
theorem back_any {w : World} {g h N : Nat} {row : List Nat} (hc : On w g h N row) (i : Int) : Calls Try.prog 14 #[.pointer (some ⟨g, 0, none⟩), .int .i64 i] w (StepPost w g h N row i) := by
  rcases place_cases i N with ⟨k, rfl, hk⟩ | hb
  · refine (back_in hc hk).mono ?_
    rintro e w' ⟨rfl, h1, h2⟩
    exact ⟨⟨_, rfl⟩, _, h1, alike_back (On.nodup hc) k, h2⟩
  · obtain ⟨f, hc', hr⟩ := hc
    refine (back_bad (r := 4) (by decide) (there_out hc' hb)).mono ?_
    rintro e w' ⟨rfl, rfl⟩
    exact ⟨⟨_, rfl⟩, _, ⟨f, hc', hr⟩, Alike.refl _ _, Keeps.refl _ _⟩
theorem cut_any {w : World} {g h N : Nat} {row : List Nat} (hc : On w g h N row) (i : Int) : Calls Try.prog 16 #[.pointer (some ⟨g, 0, none⟩), .int .i64 i] w (StepPost w g h N row i) := by
  rcases place_cases i N with ⟨k, rfl, hk⟩ | hb
  · refine (cut_in hc hk).mono ?_
    rintro e w' ⟨rfl, h1, h2⟩
    exact ⟨⟨_, rfl⟩, _, h1, alike_cut (On.nodup hc) k, h2⟩
  · obtain ⟨f, hc', hr⟩ := hc
    refine (cut_bad (r := 4) (by decide) (there_out hc' hb)).mono ?_
    rintro e w' ⟨rfl, rfl⟩
    exact ⟨⟨_, rfl⟩, _, ⟨f, hc', hr⟩, Alike.refl _ _, Keeps.refl _ _⟩

theorem step_calls {w : World} {g h N : Nat} {row : List Nat} (hc : On w g h N row) (kind i : Int) : Calls Try.prog 7 #[.pointer (some ⟨g, 0, none⟩), .agg #[.int .i64 kind, .int .i64 i]] w (StepPost w g h N row i) := by
  have HC := Aside0.mk (hc.below (below_alloc (Below.refl _ _) (.cells #[.int .i64 kind, .int .i64 i] 29 (0, 0))))
  have HK := Aside0.mk ((Keeps.refl (SetOf g h) w).alloc (.cells #[.int .i64 kind, .int .i64 i] 29 (0, 0)))
  clear hc
  by_cases q0 : kind = 0
  · subst q0
    go_enter Try.func7, Try.ntmps7
    go_wp2_with fail
    refine (front_any HC.out i).mono ?_
    rintro e w' ⟨⟨v, rfl⟩, row', h1, h2, h3⟩
    have HP := Aside0.mk (show StepPost w g h N row i (.returned v) w' from ⟨⟨v, rfl⟩, row', h1, h2, HK.out.trans h3⟩)
    clear h1 h2 h3
    go_wp2_with fail
    exact bodyPost_end (results_none rfl _ _ _) rfl ⟨⟨_, rfl⟩, HP.out.2⟩
  · have e0 : (kind == 0) = false := by simp [q0]
    by_cases q1 : kind = 1
    · subst q1
      go_enter Try.func7, Try.ntmps7
      go_wp2_with fail
      refine (front_any HC.out i).mono ?_
      rintro e w' ⟨⟨v, rfl⟩, row', h1, h2, h3⟩
      have HP := Aside0.mk (show StepPost w g h N row i (.returned v) w' from ⟨⟨v, rfl⟩, row', h1, h2, HK.out.trans h3⟩)
      clear h1 h2 h3
      go_wp2_with fail
      exact bodyPost_end (results_none rfl _ _ _) rfl ⟨⟨_, rfl⟩, HP.out.2⟩
    · have e1 : (kind == 1) = false := by simp [q1]
      by_cases q2 : kind = 2
      · subst q2
        go_enter Try.func7, Try.ntmps7
        go_wp2_with fail
        refine (back_any HC.out i).mono ?_
        rintro e w' ⟨⟨v, rfl⟩, row', h1, h2, h3⟩
        have HP := Aside0.mk (show StepPost w g h N row i (.returned v) w' from ⟨⟨v, rfl⟩, row', h1, h2, HK.out.trans h3⟩)
        clear h1 h2 h3
        go_wp2_with fail
        exact bodyPost_end (results_none rfl _ _ _) rfl ⟨⟨_, rfl⟩, HP.out.2⟩
      · have e2 : (kind == 2) = false := by simp [q2]
        by_cases q3 : kind = 3
        · subst q3
          go_enter Try.func7, Try.ntmps7
          go_wp2_with fail
          refine (cut_any HC.out i).mono ?_
          rintro e w' ⟨⟨v, rfl⟩, row', h1, h2, h3⟩
          have HP := Aside0.mk (show StepPost w g h N row i (.returned v) w' from ⟨⟨v, rfl⟩, row', h1, h2, HK.out.trans h3⟩)
          clear h1 h2 h3
          go_wp2_with fail
          exact bodyPost_end (results_none rfl _ _ _) rfl ⟨⟨_, rfl⟩, HP.out.2⟩
        · have e3 : (kind == 3) = false := by simp [q3]
          go_enter Try.func7, Try.ntmps7
          go_wp2_with fail
          exact bodyPost_end (results_none rfl _ _ _) rfl ⟨⟨_, rfl⟩, row, HC.out, Alike.refl _ _, HK.out⟩
end Go.Proofs.Ytcncninjnickoaa.Chain
