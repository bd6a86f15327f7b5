/- The page's example. -/
import Derived.Test.YtcdgenoakpmlbaaMix11
namespace Go.Proofs.Ytcdgenoakpmlbaa.Mix
open Go.RowKit Go.Proofs.YtcdgenoakpmlbaaW.PrintWords Go.Proofs.YtcdgenoakpmlbaaW.PrintLast Go.Proofs.YtcdgenoakpmlbaaW.PrintMore
open Go.Proofs.Ytcdgenoakpmlbaa Go.Proofs.Ytcdgenoakpmlbaa.Vals Go.Proofs.Ytcdgenoakpmlbaa.Q
set_option linter.unusedVariables false
set_option linter.unusedSimpArgs false

theorem pairs_row {w : World} {g : Nat} {vs : Array Value} {t : TypeId} {xs : List S32} (hg : w.heap[g]? = some (.cells vs t (0, 0))) (hm : xs.length ≤ 1000000) (hk : ∀ (i : Nat) (h : i < xs.length), vs[i * 2]? = some (.string (xs[i]).f0) ∧ vs[i * 2 + 1]? = some (.string (xs[i]).f1)) : k32.C w (some ⟨g, 0, none⟩) xs.length xs := by
  refine ⟨rfl, by omega, fun hp => ⟨⟨g, 0, none⟩, rfl, ?_⟩⟩
  intro j p hj
  obtain ⟨hjl, rfl⟩ := List.getElem?_eq_some_iff.1 hj
  obtain ⟨c0, c1⟩ := hk j hjl
  have ha : ∀ m, (⟨g, 0, none⟩ : Addr).add m = ⟨g, m, none⟩ := fun m => by simp [Addr.add]; exact fun h => h.symm
  refine ⟨[.string (xs[j]).f0, .string (xs[j]).f1], rfl, k32.K_of_M (k32_mkM w 0 (fun _ => True) _), fun i u hu => ?_⟩
  rw [ha]
  match i, hu with
  | 0, hu => cases hu; exact (blk_cell hg _).trans c0
  | 1, hu => cases hu; exact (blk_cell hg _).trans c1
def sA : ByteArray := ⟨#[97]⟩
def sB : ByteArray := ⟨#[98]⟩
def s1 : ByteArray := ⟨#[49]⟩
def s2 : ByteArray := ⟨#[50]⟩
def s3 : ByteArray := ⟨#[51]⟩
def exRows : List (List S32) := [[⟨sB, s1⟩], [⟨sA, s2⟩, ⟨sB, s3⟩]]
theorem ex_merge : mergeB exRows = [⟨sA, s2⟩, ⟨sB, s1⟩] := by
  simp [mergeB, exRows, overB, putB, cutB, isK, before, cmp, Lib.toList_data, sA, sB, s1, s2, s3, Lib.compareBytes]
theorem ex_sorted : ∀ l ∈ exRows, Sorted l := by
  simp [exRows, Sorted, cmp, sA, sB, Lib.compareBytes]
theorem C_eq {α : Type} {d : Kd α} {w : World} {A : Option Addr} {n m : Nat} {xs : List α} (h : d.C w A n xs) (e : n = m) : d.C w A m xs := e ▸ h
theorem ex_rows (w : World) : (Kd.slice 32 k32).C (((w.alloc (.cells #[.string ⟨#[98]⟩, .string ⟨#[49]⟩] 32)).alloc (.cells #[.string ⟨#[97]⟩, .string ⟨#[50]⟩, .string ⟨#[98]⟩, .string ⟨#[51]⟩] 32)).alloc (.cells #[.slice (some ⟨w.heap.size, 0, none⟩) 1 1, .slice (some ⟨w.heap.size + 1, 0, none⟩) 2 2] 25)) (some ⟨w.heap.size + 1 + 1, 0, none⟩) exRows.length exRows := by
  have h1 := blk_new w (.cells #[.string ⟨#[98]⟩, .string ⟨#[49]⟩] 32)
  obtain ⟨w1, hw1⟩ : ∃ w1, w.alloc (.cells #[.string ⟨#[98]⟩, .string ⟨#[49]⟩] 32) = w1 := ⟨_, rfl⟩
  have hz1 : w1.heap.size = w.heap.size + 1 := by rw [← hw1]; simp
  rw [hw1] at h1 ⊢
  have h2 := blk_new w1 (.cells #[.string ⟨#[97]⟩, .string ⟨#[50]⟩, .string ⟨#[98]⟩, .string ⟨#[51]⟩] 32)
  have hb := below_alloc (Below.refl w1.heap.size w1) (.cells #[.string ⟨#[97]⟩, .string ⟨#[50]⟩, .string ⟨#[98]⟩, .string ⟨#[51]⟩] 32)
  obtain ⟨w2, hw2⟩ : ∃ w2, w1.alloc (.cells #[.string ⟨#[97]⟩, .string ⟨#[50]⟩, .string ⟨#[98]⟩, .string ⟨#[51]⟩] 32) = w2 := ⟨_, rfl⟩
  have hz2 : w2.heap.size = w.heap.size + 1 + 1 := by rw [← hw2, ← hz1]; simp
  rw [hw2] at h2 hb ⊢
  rw [hz1] at h2
  have c1 : k32.C w2 (some ⟨w.heap.size, 0, none⟩) 1 [⟨sB, s1⟩] := C_eq (pairs_row (xs := [⟨sB, s1⟩]) (blk_below h1 hb) (by simp) (fun i hi => by
    have : i = 0 := by simpa using hi
    subst this
    exact ⟨rfl, rfl⟩)) rfl
  have c2 : k32.C w2 (some ⟨w.heap.size + 1, 0, none⟩) 2 [⟨sA, s2⟩, ⟨sB, s3⟩] := C_eq (pairs_row (xs := [⟨sA, s2⟩, ⟨sB, s3⟩]) h2 (by simp) (fun i hi => by
    have : i = 0 ∨ i = 1 := by simp at hi; omega
    rcases this with rfl | rfl
    · exact ⟨rfl, rfl⟩
    · exact ⟨rfl, rfl⟩)) rfl
  have hl := lit2 (d := Kd.slice 32 k32) (w := w2) (x := [⟨sB, s1⟩]) (y := [⟨sA, s2⟩, ⟨sB, s3⟩]) (t := 25) rfl ((IsL.slice_ _).2 ⟨_, 1, rfl, Nat.le_refl _, c1⟩) ((IsL.slice_ _).2 ⟨_, 2, rfl, Nat.le_refl _, c2⟩)
  rw [hz2] at hl
  obtain ⟨A, c, e, _, hC⟩ := hl.out
  injection e with e1 e2 e3
  rw [e1]
  exact hC
theorem same_true {w : World} {A0 A1 : Option Addr} {c0 c1 : Nat} {l : List S32} (h0 : k32.C w A0 l.length l) (hc0 : l.length ≤ c0) (h1 : k32.C w A1 l.length l) (hc1 : l.length ≤ c1) (hl : l.length ≤ 1000000) :
    Calls Try.prog 9 #[.slice A0 l.length c0, .slice A1 l.length c1] w fun e w' => e = .returned (.bool true) ∧ Below w.heap.size w w' := by
  obtain ⟨k, hk⟩ := (same_ev l (by omega)).rounds
  refine (sluicegateref11_Same.calls k A0 c0 l A1 c1 l true w h0 hc0 h1 hc1 hk).mono ?_
  rintro e w' ⟨rfl, hd⟩
  exact ⟨rfl, hd.below⟩
set_option maxHeartbeats 4000000 in
theorem awake_calls (w : World) : Calls Try.prog 7 #[] w fun e w' => e = .returned (.bool true) ∧ Below w.heap.size w w' := by
  have hM := merge_calls (some ⟨w.heap.size + 1 + 1, 0, none⟩) 2 (ex_rows w) (by simp [exRows]) (by simp [exRows]) ex_sorted
  rw [show exRows.length = 2 from rfl] at hM
  have HM := Aside0.mk hM
  have HB := Aside0.mk (show Below w.heap.size w (((w.alloc (.cells #[.string ⟨#[98]⟩, .string ⟨#[49]⟩] 32)).alloc (.cells #[.string ⟨#[97]⟩, .string ⟨#[50]⟩, .string ⟨#[98]⟩, .string ⟨#[51]⟩] 32)).alloc (.cells #[.slice (some ⟨w.heap.size, 0, none⟩) 1 1, .slice (some ⟨w.heap.size + 1, 0, none⟩) 2 2] 25)) from below_alloc (below_alloc (below_alloc (Below.refl _ _) _) _) _)
  clear hM
  go_enter Try.func7, Try.ntmps7
  go_wp2_with fail
  refine HM.out.mono ?_
  rintro en w2 ⟨v, rfl, hr, hb⟩
  have HB2 := Aside0.mk (below_step HB.out hb)
  rw [ex_merge] at hr
  obtain ⟨A, c, rfl, hc, hC⟩ := Kd.R_reads hr
  have HC := Aside0.mk hC
  have HCC := Aside0.mk hc
  clear hr hb hC hc HM HB
  go_wp2_with fail
  have hba := below_alloc (Below.refl w2.heap.size w2) (.cells #[.string ⟨#[97]⟩, .string ⟨#[50]⟩, .string ⟨#[98]⟩, .string ⟨#[49]⟩] 32)
  have hC2 : k32.C (w2.alloc (.cells #[.string ⟨#[97]⟩, .string ⟨#[50]⟩, .string ⟨#[98]⟩, .string ⟨#[49]⟩] 32)) (some ⟨w2.heap.size, 0, none⟩) [(⟨sA, s2⟩ : S32), ⟨sB, s1⟩].length [⟨sA, s2⟩, ⟨sB, s1⟩] := pairs_row (blk_new w2 _) (by simp) (fun i hi => by
    have : i = 0 ∨ i = 1 := by simp at hi; omega
    rcases this with rfl | rfl
    · exact ⟨rfl, rfl⟩
    · exact ⟨rfl, rfl⟩)
  have hS := same_true (Kd.C_below HC.out hba) HCC.out hC2 (c1 := 2) (by simp) (by simp)
  have HS := Aside0.mk (show Calls Try.prog 9 #[.slice A 2 c, .slice (some ⟨w2.heap.size, 0, none⟩) 2 2] _ _ from hS)
  have HB3 := Aside0.mk (below_step HB2.out hba)
  clear hba hC2 hS
  refine HS.out.mono ?_
  rintro en w3 ⟨rfl, hb3⟩
  have HB4 := Aside0.mk (below_step HB3.out hb3)
  clear hb3 HS HB3 HB2
  go_wp2_with fail
  go_ret
  exact ⟨rfl, HB4.out⟩
end Go.Proofs.Ytcdgenoakpmlbaa.Mix
