/- Values that read as lists: a slice's value told by what it reads as; literals; parts of slices. -/
import Derived.Test.YtdekhhimjnockaaDoorWMore
namespace Go.Proofs.YtdekhhimjnockaaDoor.Vals
open Go.RowKit Go.Proofs.YtdekhhimjnockaaDoorW.PrintWords
set_option linter.unusedVariables false

/-- v is a slice that reads as xs. -/
def IsL {α : Type} (d : Kd α) (xs : List α) (v : Value) (w : World) : Prop := ∃ A c, v = .slice A xs.length c ∧ xs.length ≤ c ∧ d.C w A xs.length xs

section
variable {α : Type} {d : Kd α} {xs : List α} {v : Value} {w w' : World} {A : Option Addr} {c n : Nat}
theorem IsL.mono (h : IsL d xs v w) (hb : Below w.heap.size w w') : IsL d xs v w' := by
  obtain ⟨A, c, h1, h2, h3⟩ := h
  exact ⟨A, c, h1, h2, Kd.C_below h3 hb⟩
theorem IsL.nil (d : Kd α) (w : World) : IsL d [] (.slice none 0 0) w := ⟨none, 0, rfl, Nat.le_refl _, Kd.C_nil d w⟩
theorem IsL.mk (hc : xs.length ≤ c) (h : d.C w A xs.length xs) : IsL d xs (.slice A xs.length c) w := ⟨A, c, rfl, hc, h⟩
theorem IsL.out (h : IsL d xs v w) : ∃ A c, v = .slice A xs.length c ∧ xs.length ≤ c ∧ d.C w A xs.length xs := h
theorem IsL.slice_ (e : Nat) : (Kd.slice e d).K w xs [v] ↔ IsL d xs v w := by
  constructor
  · rintro ⟨A, c, h1, h2⟩
    exact ⟨A, c, by simpa using h1, h2⟩
  · rintro ⟨A, c, rfl, h2⟩
    exact ⟨A, c, rfl, h2⟩

/-- A literal's row: each element's value is one cell. -/
theorem C_row {g : Nat} {vs : Array Value} {t : TypeId} {fr : Nat × Nat} (hs : d.sz = 1) (hg : w.heap[g]? = some (.cells vs t fr)) (hn : xs.length ≤ vs.size) (hm : xs.length ≤ 9223372036854775807)
    (hk : ∀ (i : Nat) (x : α) (v : Value), xs[i]? = some x → vs[i]? = some v → d.K w x [v]) : d.C w (some ⟨g, 0, none⟩) xs.length xs := by
  refine ⟨rfl, hm, fun _ => ⟨⟨g, 0, none⟩, rfl, fun j p hj => ?_⟩⟩
  have hj' : j < vs.size := by have := (List.getElem?_eq_some_iff.1 hj).1; omega
  refine ⟨[vs[j]], hs.symm, hk j p _ hj (Array.getElem?_eq_getElem hj'), fun i u hu => ?_⟩
  match i, hu with
  | 0, hu =>
    simp at hu
    subst hu
    rw [hs, add_plain]
    simp [World.cell?, hg, hj']
  | i + 1, hu => simp at hu

theorem lit1 {x : α} {u : Value} {t : TypeId} (hs : d.sz = 1) (hk : d.K w x [u]) : IsL d [x] (.slice (some ⟨w.heap.size, 0, none⟩) 1 1) (w.alloc (.cells #[u] t)) := by
  refine ⟨_, 1, rfl, Nat.le_refl _, C_row (xs := [x]) hs (blk_new w _) (by simp) (by simp) (fun i y v hy hv => ?_)⟩
  match i, hy, hv with
  | 0, hy, hv =>
    simp at hy hv
    subst hy; subst hv
    exact d.K_below (below_alloc (Below.refl _ _) _) hk
  | i + 1, hy, hv => simp at hy
theorem lit2 {x y : α} {u z : Value} {t : TypeId} (hs : d.sz = 1) (hk : d.K w x [u]) (hk2 : d.K w y [z]) : IsL d [x, y] (.slice (some ⟨w.heap.size, 0, none⟩) 2 2) (w.alloc (.cells #[u, z] t)) := by
  refine ⟨_, 2, rfl, Nat.le_refl _, C_row (xs := [x, y]) hs (blk_new w _) (by simp) (by simp) (fun i q v hq hv => ?_)⟩
  match i, hq, hv with
  | 0, hq, hv =>
    simp at hq hv
    subst hq; subst hv
    exact d.K_below (below_alloc (Below.refl _ _) _) hk
  | 1, hq, hv =>
    simp at hq hv
    subst hq; subst hv
    exact d.K_below (below_alloc (Below.refl _ _) _) hk2
  | i + 2, hq, hv => simp at hq

/-- Parts of a slice: their values, and that they read as the list's parts. -/
theorem cut_take {P : Program} (t e : TypeId) {i : TypeInfo} (ht : P.underlying t = some (.slice e)) (hi : P.info? e = some i) (kl : IntKind) (A : Option Addr) (n c m : Nat) (hm : m ≤ n) (hc : n ≤ c) (W : World) :
    (Instr.slice t (.slice A n c) none (some (.int kl (m : Int))) none).run P W = .ok (.slice A m c) W := by
  have hel : P.elem t = e := by simp [Program.elem, ht]
  have hu : P.underlying t = some (.slice (P.elem t)) := by rw [hel]; exact ht
  have ha : (A.map fun x => x.add 0) = A := by cases A <;> simp [Addr.add]
  rw [run_slice_h W t A n c hu kl m (by omega) (by omega), hel]
  simp [sizeOf, typeInfo, hi, sliced, Result.andThen, ha]
def cutA (A : Option Addr) (c m sz : Nat) : Option Addr := if c = m then A else A.map (·.add (m * sz))
theorem cut_drop {P : Program} (t e : TypeId) {i : TypeInfo} (ht : P.underlying t = some (.slice e)) (hi : P.info? e = some i) (kl : IntKind) (A : Option Addr) (n c m : Nat) (hm : m ≤ n) (hc : n ≤ c) (W : World) :
    (Instr.slice t (.slice A n c) (some (.int kl (m : Int))) none none).run P W = .ok (.slice (cutA A c m i.size) (n - m) (c - m)) W := by
  have hel : P.elem t = e := by simp [Program.elem, ht]
  have hu : P.underlying t = some (.slice (P.elem t)) := by rw [hel]; exact ht
  rw [run_slice_l W t A n c hu kl (m : Int) (Int.natCast_nonneg _) (by omega), hel]
  simp [sizeOf, typeInfo, hi, sliced, Result.andThen, cutA]
end
end Go.Proofs.YtdekhhimjnockaaDoor.Vals
