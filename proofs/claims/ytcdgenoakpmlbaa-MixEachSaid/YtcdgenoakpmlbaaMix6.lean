/- The heap: Fix. -/
import Derived.Test.YtcdgenoakpmlbaaMix5
namespace Go.Proofs.Ytcdgenoakpmlbaa.Mix
open Go.RowKit Go.Proofs.YtcdgenoakpmlbaaW.PrintWords Go.Proofs.YtcdgenoakpmlbaaW.PrintLast Go.Proofs.YtcdgenoakpmlbaaW.PrintMore
open Go.Proofs.Ytcdgenoakpmlbaa Go.Proofs.Ytcdgenoakpmlbaa.Vals Go.Proofs.Ytcdgenoakpmlbaa.Q
set_option linter.unusedVariables false
set_option linter.unusedSimpArgs false

theorem downL_length : ∀ (f : Nat) (qs : List Qu) (i n : Nat), (downL f qs i n).1.length = qs.length
  | 0, qs, i, n => rfl
  | f + 1, qs, i, n => by
    unfold downL
    split
    · rw [downL_length f, swp_length]
    · rfl
theorem upL_length : ∀ (f : Nat) (qs : List Qu) (j : Nat), (upL f qs j).length = qs.length
  | 0, qs, j => rfl
  | f + 1, qs, j => by
    unfold upL
    split
    · split
      · rw [upL_length f, swp_length]
      · rfl
    · rfl
/-- What Fix makes of the heap. -/
def fixL (qs : List Qu) (i : Nat) : List Qu := let r := downL (qs.length + 1) qs i qs.length; if i < r.2 then r.1 else upL (i + 1) r.1 i
theorem fixL_length (qs : List Qu) (i : Nat) : (fixL qs i).length = qs.length := by
  unfold fixL
  simp only
  split
  · exact downL_length _ _ _ _
  · rw [upL_length, downL_length]
set_option maxHeartbeats 4000000 in
theorem fix_calls {w0 : Gh} {w : World} {G F cap : Nat} {qs : List Qu} (h : Front w0 w G F cap qs) {i : Nat} (hi : i < qs.length) :
    Calls Try.prog 27 #[.iface 39 (.pointer (some ⟨G, 0, none⟩)), .int .i64 (i : Int)] w fun e w' => (∃ u, e = .returned u) ∧ Front w0 w' G F cap (fixL qs i) := by
  have HF := Aside0.mk h
  have HI := Aside0.mk hi
  have hm := m_len G h.cell
  have HD := Aside0.mk (down_calls h (Nat.le_refl qs.length) (i0 := i) (by have := h.few; omega))
  obtain ⟨r, hr⟩ : ∃ r, downL (qs.length + 1) qs i qs.length = r := ⟨_, rfl⟩
  have HFX := Aside0.mk (show fixL qs i = if i < r.2 then r.1 else upL (i + 1) r.1 i by unfold fixL; rw [hr])
  have HRL := Aside0.mk (show r.1.length = qs.length by rw [← hr]; exact downL_length _ _ _ _)
  rw [hr] at HD
  clear h hi hr
  go_enter Try.func27, Try.ntmps27
  go_wp2_with fail
  refine (len_calls (some ⟨F, 0, none⟩) qs.length cap _).mono ?_
  rintro en w1 ⟨rfl, rfl⟩
  clear hm
  go_wp2_with fail
  refine HD.out.mono ?_
  rintro en w2 ⟨rfl, hf⟩
  have HF2 := Aside0.mk hf
  clear hf HD HF
  by_cases hlt : i < r.2
  · rw [show decide ((i : Int) < (r.2 : Int)) = true from decide_eq_true (by omega)]
    have HE := Aside0.mk (HFX.out.trans (if_pos hlt))
    clear hlt
    go_wp2_with fail
    exact bodyPost_end (results_none rfl _ _ _) rfl ⟨⟨_, rfl⟩, by rw [HE.out]; exact HF2.out⟩
  · rw [show decide ((i : Int) < (r.2 : Int)) = false from decide_eq_false (by omega)]
    have HE := Aside0.mk (HFX.out.trans (if_neg hlt))
    clear hlt
    go_wp2_with fail
    refine (up_calls HF2.out (j := i) (by rw [HRL.out]; exact HI.out)).mono ?_
    rintro en w3 ⟨⟨u, rfl⟩, hf⟩
    have HF3 := Aside0.mk hf
    clear hf
    go_wp2_with fail
    exact bodyPost_end (results_none rfl _ _ _) rfl ⟨⟨_, rfl⟩, by rw [HE.out]; exact HF3.out⟩
end Go.Proofs.Ytcdgenoakpmlbaa.Mix
