/- The front's own block: Swap. -/
import Derived.Test.YtcdgenoakpmlbaaMix2
namespace Go.Proofs.Ytcdgenoakpmlbaa.Mix
open Go.RowKit Go.Proofs.YtcdgenoakpmlbaaW.PrintWords Go.Proofs.YtcdgenoakpmlbaaW.PrintLast Go.Proofs.YtcdgenoakpmlbaaW.PrintMore
open Go.Proofs.Ytcdgenoakpmlbaa Go.Proofs.Ytcdgenoakpmlbaa.Vals Go.Proofs.Ytcdgenoakpmlbaa.Q
set_option linter.unusedVariables false
set_option linter.unusedSimpArgs false

/-- Block F, of z cells, holds the cursors cs, at its front. -/
def FR (w : World) (F z : Nat) (cs : List Cu) : Prop := ∃ cur : Array Value, w.heap[F]? = some (.cells cur 44 (0, 0)) ∧ (2 * cs.length ≤ cur.size ∧ cur.size = z) ∧
  ∀ (i : Nat) (h : i < cs.length), cur[i * 2]? = some (.int .i64 (cs[i]).row) ∧ cur[i * 2 + 1]? = some (.slice (cs[i]).A (cs[i]).n (cs[i]).c)
theorem FR.cell {w : World} {F z : Nat} {cs : List Cu} (h : FR w F z cs) {i : Nat} (hi : i < cs.length) : w.cell? ⟨F, i * 2, none⟩ = some (.int .i64 (cs[i]).row) ∧ w.cell? ⟨F, i * 2 + 1, none⟩ = some (.slice (cs[i]).A (cs[i]).n (cs[i]).c) := by
  obtain ⟨cur, h1, h2, h3⟩ := h
  rw [blk_cell h1, blk_cell h1]
  exact h3 i hi
theorem FR.frozen {w : World} {F z : Nat} {cs : List Cu} (h : FR w F z cs) (j : Nat) : w.frozen? ⟨F, j, none⟩ = false := by
  obtain ⟨cur, h1, _⟩ := h
  exact blk_frozen h1 j
theorem FR.lt {w : World} {F z : Nat} {cs : List Cu} (h : FR w F z cs) : F < w.heap.size := by
  obtain ⟨cur, h1, _⟩ := h
  exact blk_lt h1
theorem FR.mono {w w' : World} {F z : Nat} {cs : List Cu} (h : FR w F z cs) (he : w'.heap[F]? = w.heap[F]?) : FR w' F z cs := by
  obtain ⟨cur, h1, h2⟩ := h
  exact ⟨cur, he.trans h1, h2⟩
theorem FR.set {w : World} {F z : Nat} {cs : List Cu} (h : FR w F z cs) {i : Nat} (hi : i < cs.length) (x : Cu) : FR ((w.setCell ⟨F, i * 2, none⟩ (.int .i64 x.row)).setCell ⟨F, i * 2 + 1, none⟩ (.slice x.A x.n x.c)) F z (cs.set i x) := by
  obtain ⟨cur, h1, h2, h3⟩ := h
  refine ⟨(cur.setIfInBounds (i * 2) (.int .i64 x.row)).setIfInBounds (i * 2 + 1) (.slice x.A x.n x.c), blk_put (blk_put h1 (i * 2) _ rfl) (i * 2 + 1) _ rfl, by simpa using h2, fun j hj => ?_⟩
  rw [List.length_set] at hj
  obtain ⟨g1, g2⟩ := h3 j hj
  by_cases e : i = j
  · subst e
    simp only [List.getElem_set_self, Array.getElem?_setIfInBounds, Array.size_setIfInBounds]
    constructor
    · rw [if_neg (by omega), if_pos trivial, if_pos (by omega)]
    · rw [if_pos trivial, if_pos (by omega)]
  · simp only [List.getElem_set_ne e, Array.getElem?_setIfInBounds, Array.size_setIfInBounds]
    constructor
    · rw [if_neg (by omega), if_neg (by omega)]; exact g1
    · rw [if_neg (by omega), if_neg (by omega)]; exact g2
set_option maxHeartbeats 4000000 in
theorem swap_calls {w : World} {F z : Nat} (c : Nat) {cs : List Cu} (h : FR w F z cs) (hl : cs.length ≤ 1000000) {i k : Nat} (hi : i < cs.length) (hk : k < cs.length) :
    Calls Try.prog 52 #[.slice (some ⟨F, 0, none⟩) cs.length c, .int .i64 (i : Int), .int .i64 (k : Int)] w fun e w' => (∃ u, e = .returned u) ∧ FR w' F z ((cs.set i cs[k]).set k cs[i]) ∧ Keeps (fun j => j = F) w w' := by
  have HI := Aside0.mk h
  obtain ⟨a0, a1⟩ := h.cell hi
  obtain ⟨b0, b1⟩ := h.cell hk
  have hz := h.frozen
  have HX := Aside0.mk (And.intro hi hk)
  obtain ⟨x, hx⟩ : ∃ x, cs[i] = x := ⟨_, rfl⟩
  obtain ⟨y, hy⟩ : ∃ y, cs[k] = y := ⟨_, rfl⟩
  rw [hx] at a0 a1
  rw [hy] at b0 b1
  rw [hx, hy]
  have g1 : (i : Int) < (cs.length : Int) := by omega
  have g2 : (k : Int) < (cs.length : Int) := by omega
  obtain ⟨m, hm⟩ : ∃ m, cs.length = m := ⟨_, rfl⟩
  rw [hm] at g1 g2 ⊢
  obtain ⟨x0, xA, xn, xc⟩ := x
  obtain ⟨y0, yA, yn, yc⟩ := y
  simp only at a0 a1 b0 b1
  have HXY := Aside0.mk (And.intro hx hy)
  clear h hl hm hx hy
  by_cases hik : i = k
  · subst hik
    have hxy := HXY.out.1.symm.trans HXY.out.2
    injection hxy with e0 e1 e2 e3
    subst e0 e1 e2 e3
    clear b0 b1
    go_enter Try.func52, Try.ntmps52
    go_region
    exact bodyPost_end (results_none rfl _ _ _) rfl ⟨⟨_, rfl⟩, ((HI.out.set HX.out.1 ⟨x0, xA, xn, xc⟩).set (i := i) (by rw [List.length_set]; exact HX.out.2) ⟨x0, xA, xn, xc⟩).mono rfl,
      (((((Keeps.refl (fun j => j = F) w).set (p := ⟨F, i * 2, none⟩) (Or.inl rfl) _).set (p := ⟨F, i * 2 + 1, none⟩) (Or.inl rfl) _).set (p := ⟨F, i * 2, none⟩) (Or.inl rfl) _).set (p := ⟨F, i * 2 + 1, none⟩) (Or.inl rfl) _).drew⟩
  · have h1 : i * 2 ≠ k * 2 := by omega
    have h2 : i * 2 ≠ k * 2 + 1 := by omega
    have h3 : i * 2 + 1 ≠ k * 2 := by omega
    have h4 : i * 2 + 1 ≠ k * 2 + 1 := by omega
    go_enter Try.func52, Try.ntmps52
    go_region
    exact bodyPost_end (results_none rfl _ _ _) rfl ⟨⟨_, rfl⟩, ((HI.out.set HX.out.1 ⟨y0, yA, yn, yc⟩).set (i := k) (by rw [List.length_set]; exact HX.out.2) ⟨x0, xA, xn, xc⟩).mono rfl,
      (((((Keeps.refl (fun j => j = F) w).set (p := ⟨F, i * 2, none⟩) (Or.inl rfl) _).set (p := ⟨F, i * 2 + 1, none⟩) (Or.inl rfl) _).set (p := ⟨F, k * 2, none⟩) (Or.inl rfl) _).set (p := ⟨F, k * 2 + 1, none⟩) (Or.inl rfl) _).drew⟩
end Go.Proofs.Ytcdgenoakpmlbaa.Mix
