/- What is heard makes nothing less: no memory. -/
import Derived.Test.YtkpdcacfokcpnaaMeterRef
namespace Go.Proofs.Ytkpdcacfokcpnaa.Q
open Go.RowKit Go.Proofs.YtkpdcacfokcpnaaW.PrintWords Go.Proofs.YtkpdcacfokcpnaaW.PrintLast Go.Proofs.YtkpdcacfokcpnaaW.PrintMore
open Go.Proofs.Ytkpdcacfokcpnaa Go.Proofs.Ytkpdcacfokcpnaa.Vals
set_option linter.unusedVariables false
set_option linter.unusedSimpArgs false

theorem bnd_mono {c : Cfg} (hr : c.right) {n e h n2 e2 h2 : Int} (hn : 0 ≤ n) (he : 0 ≤ e) (hh : 0 ≤ h) (a : n ≤ n2) (b : e ≤ e2) (d : h ≤ h2) (a2 : n2 ≤ 1048576) (b2 : e2 ≤ 1048576) (d2 : h2 ≤ 1048576) : bnd c n e h ≤ bnd c n2 e2 h2 := by
  unfold bnd
  rw [if_pos ⟨hr, hn, he, hh, by omega, by omega, by omega⟩, if_pos ⟨hr, by omega, by omega, by omega, a2, b2, d2⟩]
  obtain ⟨m1, m2, _⟩ := Cfg.move_bd hr.1
  have hp : n * h ≤ n2 * h2 := Int.le_trans (Int.mul_le_mul_of_nonneg_right a hh) (Int.mul_le_mul_of_nonneg_left d (by omega))
  have hd := Int.ediv_le_ediv (c := c.move) (by omega) (show n * h + c.move - 1 ≤ n2 * h2 + c.move - 1 by omega)
  omega
theorem mbnd_more {c : Cfg} (hr : c.right) {l : List S37} {o : S37} (hh : Heard (l ++ [o])) (hl : l.length < 1048576) : mBnd c l ≤ mBnd c (l ++ [o]) := by
  obtain ⟨a, b, d⟩ := heard_bd l hh.front.1
  obtain ⟨a2, b2, d2⟩ := heard_bd (l ++ [o]) hh
  rw [List.length_append, List.length_singleton] at a2 b2
  unfold mBnd
  refine bnd_mono hr a.1 b.1 (by omega) ?_ ?_ ?_ (by omega) (by omega) (by omega)
  · rw [nChg_snoc]; split <;> omega
  · rw [nFull_snoc]; split <;> omega
  · rw [hiOf_snoc]; split <;> omega
theorem k_more {l : List S37} {o : S37} (hh : Heard (l ++ [o])) (q : Int) : kR l q ≤ kR (l ++ [o]) q ∧ kW l q ≤ kW (l ++ [o]) q ∧ kM l q ≤ kM (l ++ [o]) q := by
  obtain ⟨_, _, h0, h1⟩ := hh.front
  unfold kR kW kM
  rw [sumR_snoc, sumW_snoc, mostOf_snoc]
  by_cases hq : 0 ≤ q ∧ q ≤ 7
  · simp only [if_pos hq]
    refine ⟨?_, ?_, ?_⟩
    · split <;> omega
    · split <;> omega
    · split
      · split <;> omega
      · omega
  · simp only [if_neg hq]
    exact ⟨Int.le_refl _, Int.le_refl _, Int.le_refl _⟩
end Go.Proofs.Ytkpdcacfokcpnaa.Q
