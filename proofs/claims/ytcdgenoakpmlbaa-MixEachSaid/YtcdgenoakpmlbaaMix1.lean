/- The heap's methods, through the interface value: which function is called, on what. -/
import Derived.Test.YtcdgenoakpmlbaaMix0
namespace Go.Proofs.Ytcdgenoakpmlbaa.Mix
open Go.RowKit Go.Proofs.YtcdgenoakpmlbaaW.PrintWords Go.Proofs.YtcdgenoakpmlbaaW.PrintLast Go.Proofs.YtcdgenoakpmlbaaW.PrintMore
open Go.Proofs.Ytcdgenoakpmlbaa Go.Proofs.Ytcdgenoakpmlbaa.Vals Go.Proofs.Ytcdgenoakpmlbaa.Q
set_option linter.unusedVariables false
set_option linter.unusedSimpArgs false

theorem m_push (G : Nat) (w : World) : (method 176 39 (.pointer (some ⟨G, 0, none⟩)) "Push").run Try.prog w = .ok (51, .pointer (some ⟨G, 0, none⟩)) w := by kernel_rfl
theorem m_pop (G : Nat) (w : World) : (method 176 39 (.pointer (some ⟨G, 0, none⟩)) "Pop").run Try.prog w = .ok (50, .pointer (some ⟨G, 0, none⟩)) w := by kernel_rfl
theorem load_front {w : World} {G : Nat} {v : Value} (k0 : w.cell? ⟨G, 0, none⟩ = some v) : (loadVar 41 ⟨G, 0, none⟩).run Try.prog w = .ok v w := by
  go_simp
theorem m_len {w : World} (G : Nat) {v : Value} (k0 : w.cell? ⟨G, 0, none⟩ = some v) : (method 176 39 (.pointer (some ⟨G, 0, none⟩)) "Len").run Try.prog w = .ok (21, v) w := by
  have hf : (Array.find? (fun x => x.name == "Len") Try.t39.methods).map (fun m => (m.path, m.func)) = some (#[], some (21, false)) := by kernel_rfl
  obtain ⟨m, hm, hmm⟩ := Option.map_eq_some_iff.1 hf
  simp only [Prod.mk.injEq] at hmm
  obtain ⟨hp, hq⟩ := hmm
  have hc : ∀ (x y : String) (w : World), (Builtin.ssaWrapNilChk_ #[39] 39 #[.pointer (some ⟨G, 0, none⟩), strVal x, strVal y]).run Try.prog w = .ok (.pointer (some ⟨G, 0, none⟩)) w := fun _ _ _ => by kernel_rfl
  unfold method
  go_simp
  simp only [follow, receiverAt, Place.get]
  go_simp
theorem m_less {w : World} (G : Nat) {v : Value} (k0 : w.cell? ⟨G, 0, none⟩ = some v) : (method 176 39 (.pointer (some ⟨G, 0, none⟩)) "Less").run Try.prog w = .ok (49, v) w := by
  have hf : (Array.find? (fun x => x.name == "Less") Try.t39.methods).map (fun m => (m.path, m.func)) = some (#[], some (49, false)) := by kernel_rfl
  obtain ⟨m, hm, hmm⟩ := Option.map_eq_some_iff.1 hf
  simp only [Prod.mk.injEq] at hmm
  obtain ⟨hp, hq⟩ := hmm
  have hc : ∀ (x y : String) (w : World), (Builtin.ssaWrapNilChk_ #[39] 39 #[.pointer (some ⟨G, 0, none⟩), strVal x, strVal y]).run Try.prog w = .ok (.pointer (some ⟨G, 0, none⟩)) w := fun _ _ _ => by kernel_rfl
  unfold method
  go_simp
  simp only [follow, receiverAt, Place.get]
  go_simp
theorem m_swap {w : World} (G : Nat) {v : Value} (k0 : w.cell? ⟨G, 0, none⟩ = some v) : (method 176 39 (.pointer (some ⟨G, 0, none⟩)) "Swap").run Try.prog w = .ok (52, v) w := by
  have hf : (Array.find? (fun x => x.name == "Swap") Try.t39.methods).map (fun m => (m.path, m.func)) = some (#[], some (52, false)) := by kernel_rfl
  obtain ⟨m, hm, hmm⟩ := Option.map_eq_some_iff.1 hf
  simp only [Prod.mk.injEq] at hmm
  obtain ⟨hp, hq⟩ := hmm
  have hc : ∀ (x y : String) (w : World), (Builtin.ssaWrapNilChk_ #[39] 39 #[.pointer (some ⟨G, 0, none⟩), strVal x, strVal y]).run Try.prog w = .ok (.pointer (some ⟨G, 0, none⟩)) w := fun _ _ _ => by kernel_rfl
  unfold method
  go_simp
  simp only [follow, receiverAt, Place.get]
  go_simp
end Go.Proofs.Ytcdgenoakpmlbaa.Mix
