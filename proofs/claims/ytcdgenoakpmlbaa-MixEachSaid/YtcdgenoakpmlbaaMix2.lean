/- The front: cursors as rows of a number and a slice; Len and Less. -/
import Derived.Test.YtcdgenoakpmlbaaMix1
import Derived.StillTailTactics
namespace Go.Proofs.Ytcdgenoakpmlbaa.Mix
open Go.RowKit Go.Proofs.YtcdgenoakpmlbaaW.PrintWords Go.Proofs.YtcdgenoakpmlbaaW.PrintLast Go.Proofs.YtcdgenoakpmlbaaW.PrintMore
open Go.Proofs.Ytcdgenoakpmlbaa Go.Proofs.Ytcdgenoakpmlbaa.Vals Go.Proofs.Ytcdgenoakpmlbaa.Q
set_option linter.unusedVariables false
set_option linter.unusedSimpArgs false

/-- A cursor: its row's number, and where what is left of the row lies. -/
structure Cu where
  row : Int
  A : Option Addr
  n : Nat
  c : Nat
def kc : Kd Cu := Kd.iso (Kd.pair (Kd.int .i64) (Kd.scalar (fun h : Option Addr × Nat × Nat => .slice h.1 h.2.1 h.2.2) (fun _ => rfl))) (fun x : Cu => (x.row, (x.A, x.n, x.c)))
def Cu.cells (x : Cu) : List Value := [.int .i64 x.row, .slice x.A x.n x.c]
theorem kc_mk (w : World) (x : Cu) : kc.K w x x.cells := ⟨[.int .i64 x.row], [.slice x.A x.n x.c], rfl, rfl, rfl⟩
theorem kc_mkM (w : World) (base : Nat) (ok : Nat → Prop) (x : Cu) : kc.M w base ok x x.cells := ⟨[.int .i64 x.row], [.slice x.A x.n x.c], rfl, rfl, rfl⟩
theorem kc_open {w : World} {x : Cu} {cs : List Value} (h : kc.K w x cs) : cs = x.cells := by
  obtain ⟨_, _, rfl, rfl, rfl⟩ := h
  rfl
def zc : Cu := ⟨0, none, 0, 0⟩
theorem cu_at {w : World} {A : Option Addr} {cs : List Cu} (h : kc.C w A cs.length cs) {i : Nat} (hi : i < cs.length) :
    ∃ ad, A = some ad ∧ w.cell? (ad.add (i * 2)) = some (.int .i64 (cs[i]).row) ∧ w.cell? ⟨(ad.add (i * 2)).block, (ad.add (i * 2)).off + 1, none⟩ = some (.slice (cs[i]).A (cs[i]).n (cs[i]).c) := by
  obtain ⟨ad, c, e, _, hK, hc0⟩ := Kd.C_get h zc (i : Int) (by omega) (by omega)
  have hc : ∀ j u, c[j]? = some u → w.cell? (ad.add ((i : Int).toNat * 2 + j)) = some u := hc0
  rw [Int.toNat_natCast] at hc
  have hr : cs.getD i zc = cs[i] := by rw [List.getD_eq_getElem?_getD, List.getElem?_eq_getElem hi]; rfl
  rw [Int.toNat_natCast, hr] at hK
  obtain rfl := kc_open hK
  exact ⟨ad, e, hc 0 _ rfl, by rw [← add_field _ _ 1 (by omega)]; exact hc 1 _ rfl⟩
theorem pair_at {w : World} {A : Option Addr} {n : Nat} {xs : List S32} (h : Kd.C k32 w A n xs) {i : Nat} (hi : i < n) (hx : i < xs.length) :
    ∃ ad, A = some ad ∧ w.cell? (ad.add (i * 2)) = some (.string (xs[i]).f0) ∧ w.cell? ⟨(ad.add (i * 2)).block, (ad.add (i * 2)).off + 1, none⟩ = some (.string (xs[i]).f1) := by
  obtain ⟨ad, e, h0, h1⟩ := at_T32 h (i : Int) (by omega) (by omega)
  have hr : rd_T32 xs (i : Int) = xs[i] := by unfold rd_T32; rw [Int.toNat_natCast, List.getD_eq_getElem?_getD, List.getElem?_eq_getElem hx]; rfl
  rw [hr, Int.toNat_natCast] at h0 h1
  exact ⟨ad, e, h0, h1⟩
theorem add_none (p : Addr) : p.add 0 = p := by first | simp | (cases p; simp [Addr.add])
theorem len_calls (A : Option Addr) (n c : Nat) (w : World) : Calls Try.prog 21 #[.slice A n c] w fun e w' => e = .returned (.int .i64 (n : Int)) ∧ w = w' := by
  go_enter Try.func21, Try.ntmps21
  go_wp2_with fail
  go_ret
  exact ⟨by simp, rfl⟩
def lessB (r0 : Int) (k0 : ByteArray) (r1 : Int) (k1 : ByteArray) : Bool := if cmp k0 k1 = 0 then decide (r0 < r1) else decide (cmp k0 k1 < 0)
set_option maxHeartbeats 4000000 in
theorem less_calls {w : World} (A : Option Addr) (c : Nat) {cs : List Cu} (h : kc.C w A cs.length cs) (hl : cs.length ≤ 1000000) {i k : Nat} (hi : i < cs.length) (hk : k < cs.length) {li lk : List S32} (hli : k32.C w (cs[i]).A (cs[i]).n li) (hlk : k32.C w (cs[k]).A (cs[k]).n lk) (hni : 0 < (cs[i]).n) (hnk : 0 < (cs[k]).n) (hpi : 0 < li.length) (hpk : 0 < lk.length) :
    Calls Try.prog 49 #[.slice A cs.length c, .int .i64 (i : Int), .int .i64 (k : Int)] w fun e w' => e = .returned (.bool (lessB (cs[i]).row li[0].f0 (cs[k]).row lk[0].f0)) ∧ Below w.heap.size w w' := by
  obtain ⟨ad, rfl, a0, a1⟩ := cu_at h hi
  obtain ⟨ad', e, b0, b1⟩ := cu_at h hk
  cases e
  obtain ⟨p, ep, p0, p9⟩ := pair_at hli hni hpi
  clear p9
  obtain ⟨q, eq, q0, q9⟩ := pair_at hlk hnk hpk
  clear q9
  rw [Nat.zero_mul, add_none] at p0 q0
  rw [ep] at a1
  rw [eq] at b1
  generalize (cs[i]).row = r0 at a0
  generalize (cs[k]).row = r1 at b0
  generalize (cs[i]).n = n0 at a1 hni
  generalize (cs[k]).n = n1 at b1 hnk
  generalize (cs[i]).c = c0 at a1
  generalize (cs[k]).c = c1 at b1
  generalize li[0].f0 = k0 at p0
  generalize lk[0].f0 = k1 at q0
  have g1 : (i : Int) < (cs.length : Int) := by omega
  have g2 : (k : Int) < (cs.length : Int) := by omega
  generalize cs.length = m at g1 g2
  clear h hl hi hk hli hlk hpi hpk ep eq
  go_enter Try.func49, Try.ntmps49
  go_wp2_with fail
  have HB := Aside0.mk (show Below w.heap.size w w.drew from pw_below_drewN (Below.refl _ _) 1)
  have a0 : w.drew.cell? _ = _ := a0
  have a1 : w.drew.cell? _ = _ := a1
  have b0 : w.drew.cell? _ = _ := b0
  have b1 : w.drew.cell? _ = _ := b1
  have p0 : w.drew.cell? _ = _ := p0
  have q0 : w.drew.cell? _ = _ := q0
  refine wp_region_still_tail 16 (by kernel_rfl) (by kernel_rfl) ?_
  simp only [List.take_succ_cons, List.take_zero, List.drop_succ_cons, List.drop_zero]
  have ew : ({ heap := w.heap, tape := w.tape, drawn := w.drawn + 1, os := w.os, output := w.output } : World) = w.drew := rfl
  rw [ew]
  clear ew
  generalize w.drew = wq at a0 a1 b0 b1 p0 q0 HB ⊢
  repeat still_step
  refine wpStill_nil ?_
  go_wp2_with fail
  refine (lex_calls k0 k1 _).mono ?_
  rintro en w1 ⟨rfl, rfl⟩
  have HQ := Aside0.mk (show lessB r0 k0 r1 k1 = (if cmp k0 k1 = 0 then decide (r0 < r1) else decide (cmp k0 k1 < 0)) from rfl)
  generalize cmp k0 k1 = x at HQ ⊢
  by_cases hx : x = 0
  · subst hx
    have HQ2 := Aside0.mk (HQ.out.trans (if_pos rfl))
    go_wp2_with fail
    go_region
    all_goals
      go_wp2_with fail
      go_ret
      exact ⟨by rw [HQ2.out]; simp, below_step HB.out (pw_below_drewN (Below.refl _ _) 1)⟩
  · have hx1 : (x == 0) = false := beq_eq_false_iff_ne.2 hx
    have hx2 : (x != 0) = true := by simp [bne, hx1]
    have HQ2 := Aside0.mk (HQ.out.trans (if_neg hx))
    go_wp2_with fail
    go_ret
    exact ⟨by rw [HQ2.out]; simp, HB.out⟩
end Go.Proofs.Ytcdgenoakpmlbaa.Mix
