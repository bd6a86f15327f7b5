/- The front goes on: next. -/
import Derived.Test.YtcdgenoakpmlbaaMix7
namespace Go.Proofs.Ytcdgenoakpmlbaa.Mix
open Go.RowKit Go.Proofs.YtcdgenoakpmlbaaW.PrintWords Go.Proofs.YtcdgenoakpmlbaaW.PrintLast Go.Proofs.YtcdgenoakpmlbaaW.PrintMore
open Go.Proofs.Ytcdgenoakpmlbaa Go.Proofs.Ytcdgenoakpmlbaa.Vals Go.Proofs.Ytcdgenoakpmlbaa.Q
set_option linter.unusedVariables false
set_option linter.unusedSimpArgs false

theorem FR.set1 {w : World} {F z : Nat} {cs : List Cu} (h : FR w F z cs) {i : Nat} (hi : i < cs.length) (x : Cu) (hr : x.row = (cs[i]).row) : FR (w.setCell ⟨F, i * 2 + 1, none⟩ (.slice x.A x.n x.c)) F z (cs.set i x) := by
  obtain ⟨cur, h1, h2, h3⟩ := h
  refine ⟨cur.setIfInBounds (i * 2 + 1) (.slice x.A x.n x.c), blk_put h1 (i * 2 + 1) _ rfl, by simpa using h2, fun j hj => ?_⟩
  rw [List.length_set] at hj
  obtain ⟨g1, g2⟩ := h3 j hj
  by_cases e : i = j
  · subst e
    simp only [List.getElem_set_self, Array.getElem?_setIfInBounds, Array.size_setIfInBounds]
    constructor
    · rw [if_neg (by omega), hr]; exact g1
    · rw [if_pos trivial, if_pos (by omega)]
  · simp only [List.getElem_set_ne e, Array.getElem?_setIfInBounds, Array.size_setIfInBounds]
    constructor
    · rw [if_neg (by omega)]; exact g1
    · rw [if_neg (by omega)]; exact g2
/-- A cursor, one pair on. -/
def Qu.cut (q : Qu) : Qu := ⟨⟨q.x.row, if q.x.c = 1 then q.x.A else q.x.A.map (·.add 2), q.x.n - 1, q.x.c - 1⟩, q.l.drop 1⟩
def nextL : List Qu → List Qu
  | [] => []
  | q :: t => if 1 < q.l.length then fixL (q.cut :: t) 0 else popL (q :: t)
set_option maxHeartbeats 4000000 in
theorem next_calls {w0 : Gh} {w : World} {G F cap : Nat} {q : Qu} {t : List Qu} (h : Front w0 w G F cap (q :: t)) :
    Calls Try.prog 22 #[.pointer (some ⟨G, 0, none⟩)] w fun e w' => (∃ u, e = .returned u) ∧ Front w0 w' G F cap (nextL (q :: t)) := by
  have HF := Aside0.mk h
  have k0 := h.cell
  obtain ⟨r1, r2, r3, r4⟩ := h.rows q (by simp)
  have g0 : (0 : Int) < ((q :: t).length : Int) := by simp only [List.length_cons]; omega
  obtain ⟨a0, a1⟩ := h.fr.cell (i := 0) (by simp)
  have f1 := h.fr.frozen 1
  simp only [List.map_cons, List.getElem_cons_zero, Nat.zero_mul, Nat.zero_add] at a0 a1
  generalize hlen : (q :: t).length = L at k0 g0
  clear h hlen
  by_cases hq : 1 < q.l.length
  · have d1 : decide ((1 : Int) < (q.x.n : Int)) = true := decide_eq_true (by omega)
    have HE := Aside0.mk (show nextL (q :: t) = fixL (q.cut :: t) 0 by show (if _ then _ else _) = _; rw [if_pos hq])
    obtain ⟨i32, hi32⟩ : ∃ i5, Try.prog.info? 32 = some i5 := Option.isSome_iff_exists.1 (by rfl)
    have hz32 : i32.size = 2 := by
      have : (Try.prog.info? 32).map (·.size) = some 2 := by kernel_rfl
      rw [hi32] at this
      simpa using this
    have hs := fun W => cut_drop (P := Try.prog) 25 32 Try.underlying25 hi32 .i64 q.x.A q.x.n q.x.c 1 (by omega) r4 W
    rw [hz32, show ((1 : Nat) : Int) = 1 from rfl] at hs
    have HCUT := Aside0.mk (show q.cut.x = ⟨q.x.row, cutA q.x.A q.x.c 1 2, q.x.n - 1, q.x.c - 1⟩ from rfl)
    have HQ := Aside0.mk (show 0 < q.cut.l.length ∧ q.cut.x.n = q.cut.l.length ∧ k32.C w0.w0 q.cut.x.A q.cut.x.n q.cut.l ∧ q.cut.x.n ≤ q.cut.x.c from by
      have hl : (q.l.drop 1).length = q.l.length - 1 := List.length_drop
      have hc3 : k32.C w0.w0 q.x.A q.l.length q.l := by rw [← r2]; exact r3
      have hd := Kd.C_drop (m := 1) hc3 (by omega) (c := q.x.c) (by omega)
      refine ⟨by show 0 < (q.l.drop 1).length; omega, by show q.x.n - 1 = (q.l.drop 1).length; omega, ?_, by show q.x.n - 1 ≤ q.x.c - 1; omega⟩
      rw [hl, ← r2] at hd
      exact hd)
    clear r1 r2 r3 r4 hi32 hq
    generalize q.x.n = qn at a1 d1 hs HCUT
    generalize q.x.c = qc at a1 hs HCUT
    generalize cutA q.x.A qc 1 2 = A1 at hs HCUT
    generalize q.x.A = qA at a1 hs
    go_enter Try.func22, Try.ntmps22
    go_upto_region 3 with fail
    have HF2 := Aside0.mk (show Front w0 (w.setCell ⟨F, 1, none⟩ (.slice A1 (qn - 1) (qc - 1))) G F cap (q.cut :: t) from by
      have hset := HF.out.fr.set1 (i := 0) (by simp) q.cut.x rfl
      rw [HCUT.out] at hset
      refine ⟨(Below.heap_setCell w ⟨F, 1, none⟩ _ G (fun e => HF.out.ne e.symm)).trans HF.out.ex, ?_, HF.out.ne, HF.out.low, fun y hy => ?_, HF.out.few, Keeps.below_then HF.out.old (Nat.le_refl _) ((Keeps.refl (fun j => j = F) w).set (p := ⟨F, 1, none⟩) (Or.inl rfl) _) (fun j hj => by have h1 : j = F := hj; have := HF.out.low.1; omega), HF.out.inS, HF.out.mark.set (p := ⟨F, 1, none⟩) (Or.inl HF.out.inS.2) _⟩
      · show FR _ F _ (q.cut.x :: t.map Qu.x)
        rw [HCUT.out]
        exact hset
      · rcases List.mem_cons.1 hy with rfl | hy
        · exact HQ.out
        · exact HF.out.rows y (by simp [hy]))
    clear k0 a0 a1 f1 hs HF
    generalize w.setCell ⟨F, 1, none⟩ (.slice A1 (qn - 1) (qc - 1)) = w1 at HF2 ⊢
    go_wp2_with fail
    have hfx := fix_calls HF2.out (i := 0) (by simp)
    rw [show ((0 : Nat) : Int) = 0 from rfl] at hfx
    refine hfx.mono ?_
    rintro en w2 ⟨⟨u, rfl⟩, hf⟩
    have HF3 := Aside0.mk hf
    clear hf
    go_wp2_with fail
    exact bodyPost_ret (results_none rfl _ _ _) rfl ⟨⟨_, rfl⟩, by rw [HE.out]; exact HF3.out⟩
  · have d1 : decide ((1 : Int) < (q.x.n : Int)) = false := decide_eq_false (by omega)
    have HE := Aside0.mk (show nextL (q :: t) = popL (q :: t) by show (if _ then _ else _) = _; rw [if_neg hq])
    have HP := Aside0.mk (pop_calls HF.out (by simp))
    clear hq r1 r2 r3 r4
    go_enter Try.func22, Try.ntmps22
    go_wp2_with fail
    refine HP.out.mono ?_
    rintro en w2 ⟨⟨u, rfl⟩, hf⟩
    have HF2 := Aside0.mk hf
    clear hf
    go_wp2_with fail
    exact bodyPost_end (results_none rfl _ _ _) rfl ⟨⟨_, rfl⟩, by rw [HE.out]; exact HF2.out⟩
end Go.Proofs.Ytcdgenoakpmlbaa.Mix
