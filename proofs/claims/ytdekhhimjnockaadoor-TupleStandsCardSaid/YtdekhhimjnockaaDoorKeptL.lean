/- Lists in memory stay while other blocks turn. -/
import Derived.Test.YtdekhhimjnockaaDoorKeeps
import Derived.Test.YtdekhhimjnockaaDoorVals
namespace Go.Proofs.YtdekhhimjnockaaDoor.Vals
open Go.RowKit Go.Proofs.YtdekhhimjnockaaDoorW.PrintWords Go.Proofs.YtdekhhimjnockaaDoor
set_option linter.unusedVariables false
theorem IsL.keeps {α : Type} {d : Kd α} {xs : List α} {v : Value} {w w' : World} {S : Nat → Prop} (hd : ∀ x cs, d.K w x cs → d.K w' x cs) (h : IsL d xs v w) (hk : Keeps S w w') (hv : ∀ k, v.ownBlock = some k → ¬ S k) : IsL d xs v w' := by
  obtain ⟨A, c, rfl, h2, hl, hle, f⟩ := h
  refine ⟨A, c, rfl, h2, hl, hle, fun h0 => ?_⟩
  obtain ⟨ad, rfl, f2⟩ := f h0
  refine ⟨ad, rfl, fun j p hp => ?_⟩
  obtain ⟨cs, hcl, hK, hcell⟩ := f2 j p hp
  refine ⟨cs, hcl, hd _ _ hK, fun i u hu => ?_⟩
  have hc := hcell i u hu
  have hlt := World.block_lt_of_cell? w _ hc
  have hb : (ad.add (j * d.sz + i)).block = ad.block := by unfold Addr.add; split <;> rfl
  rw [World.cell?_of_block (w := w) (hk.block _ hlt (by rw [hb]; exact hv _ rfl))]
  exact hc
end Go.Proofs.YtdekhhimjnockaaDoor.Vals
