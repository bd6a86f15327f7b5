/- The page's examples hold: what 'awake' comes to, walked by hand: texts of constants are marked by their conversion, so they are read as what they are. -/
import Derived.Test.YtnoanllncohkdaaQ1
import Derived.Lib.SmallJoins
import Derived.WalkSpells
namespace Go.Proofs.Ytnoanllncohkdaa.Q
open Go.RowKit Go.Proofs.YtnoanllncohkdaaW.PrintWords Go.Proofs.YtnoanllncohkdaaW.PrintLast Go.Proofs.YtnoanllncohkdaaW.PrintMore
set_option linter.unusedVariables false

theorem awake_of {k : Nat} {r : Bool} (h : sluicegatelaw03_awake.f k = some r) : r = true ∧ check_Sum.f k [] = some 1 ∧ check_Sum.f k [[97]] = some 6422626 ∧ check_Right.f k [97] 6422626 = some true := by
  match k, h with
  | 0, h => simp [sluicegatelaw03_awake.f, check_Sum.f, check_Sum.l0] at h
  | 1, h => rw [show sluicegatelaw03_awake.f 1 = none by decide +kernel] at h; cases h
  | 2, h => rw [show sluicegatelaw03_awake.f 2 = none by decide +kernel] at h; cases h
  | k + 3, h =>
    have a := at_rounds (fun k => check_Sum.mono [] k) (show 3 ≤ k + 3 by omega) (show check_Sum.f 3 [] = some 1 by decide +kernel)
    have b := at_rounds (fun k => check_Sum.mono [[97]] k) (show 3 ≤ k + 3 by omega) (show check_Sum.f 3 [[97]] = some 6422626 by decide +kernel)
    have c := at_rounds (fun k => check_Right.mono [97] 6422626 k) (show 3 ≤ k + 3 by omega) (show check_Right.f 3 [97] 6422626 = some true by decide +kernel)
    refine ⟨?_, a, b, c⟩
    unfold sluicegatelaw03_awake.f at h
    rw [a, b, c] at h
    simpa using h.symm

/-- A literal's row of one byte, marked or not, reads as that byte. -/
theorem reads_a {W : World} {g : Nat} {C : Array Value} {fr : Nat × Nat} (hb : W.heap[g]? = some (.cells C 5 fr)) (hC : C[0]? = some (.int .u8 97)) : Kd.C (Kd.int .u8) W (some ⟨g, 0, none⟩) 1 [97] := by
  refine ⟨rfl, by omega, fun _ => ⟨⟨g, 0, none⟩, rfl, fun j p hj => ?_⟩⟩
  match j, hj with
  | 0, hj =>
    simp at hj
    subst hj
    refine ⟨[.int .u8 97], rfl, rfl, fun i u hu => ?_⟩
    match i, hu with
    | 0, hu =>
      simp at hu
      subst hu
      simp [Addr.add, World.cell?, hb, hC]
    | i + 1, hu => simp at hu
  | j + 1, hj => simp at hj

/-- A literal's row of one list reads as that list alone. -/
theorem reads_row1 {W : World} {g : Nat} {C : Array Value} {t : TypeId} {fr : Nat × Nat} {A : Option Addr} {n c : Nat} {l : List Int} (hb : W.heap[g]? = some (.cells C t fr)) (hC : C[0]? = some (.slice A n c)) (hn : l.length = n) (hc : n ≤ c) (hl : Kd.C (Kd.int .u8) W A n l) :
    Kd.C (Kd.slice 5 (Kd.int .u8)) W (some ⟨g, 0, none⟩) 1 [l] := by
  subst hn
  refine ⟨rfl, by omega, fun _ => ⟨⟨g, 0, none⟩, rfl, fun j p hj => ?_⟩⟩
  match j, hj with
  | 0, hj =>
    simp at hj
    subst hj
    refine ⟨[.slice A l.length c], rfl, ⟨A, c, rfl, hc, hl⟩, fun i u hu => ?_⟩
    match i, hu with
    | 0, hu =>
      simp at hu
      subst hu
      simp [Addr.add, World.cell?, hb, hC]
    | i + 1, hu => simp at hu
  | j + 1, hj => simp at hj

set_option maxHeartbeats 400000 in
theorem sluicegatelaw03_awake.calls (k : Nat) (r : Bool) (w : World) (h : sluicegatelaw03_awake.f k = some r) :
    Calls Try.prog 7 #[] w fun e w' => e = .returned (.bool r) ∧ Below w.heap.size w w' := by
  obtain ⟨rfl, h1, h2, h3⟩ := awake_of h
  clear h
  have H1 := Aside0.mk h1
  have H2 := Aside0.mk h2
  have H3 := Aside0.mk h3
  clear h1 h2 h3
  have kc := fun (w : World) (C : Array Value) (n c g : Nat) (hg : g = w.heap.size) => Joins.run_convert_bytes_const_at (P := Try.prog) w 24 5 C n c g hg Try.underlying24 Try.underlying5
  go_enter Try.func7, Try.ntmps7
  go_wp2_with fail
  refine (check_Sum.calls k _ _ ([] : List (List Int)) 1 _ (Kd.C_nil _ _) (Nat.le_refl _) H1.out).mono ?_
  rintro e w' ⟨rfl, ⟨nd, rfl⟩⟩
  go_wp2_with fail
  rw [show (Sem.run Try.prog (convert 24 24 (Value.slice (some { block := w.heap.size, off := 0 }) 1 1)) ((w.drewN nd).alloc (Obj.cells #[Value.int IntKind.u8 97] 5))) = _ from kc (w.drewN nd) _ _ _ _ rfl]
  go_wp2_with fail
  have e1 : (((w.drewN nd).alloc (Obj.cells #[Value.int IntKind.u8 97] 5 (1, 2))).alloc (Obj.cells #[Value.slice (some { block := w.heap.size, off := 0 }) 1 1] 24)).heap[w.heap.size]? = some (Obj.cells #[Value.int IntKind.u8 97] 5 (1, 2)) := blk_alloc (blk_new (w.drewN nd) _) _
  have e2 : (((w.drewN nd).alloc (Obj.cells #[Value.int IntKind.u8 97] 5 (1, 2))).alloc (Obj.cells #[Value.slice (some { block := w.heap.size, off := 0 }) 1 1] 24)).heap[w.heap.size + 1]? = some (Obj.cells #[Value.slice (some { block := w.heap.size, off := 0 }) 1 1] 24) := by
    have := blk_new ((w.drewN nd).alloc (Obj.cells #[Value.int IntKind.u8 97] 5 (1, 2))) (Obj.cells #[Value.slice (some { block := w.heap.size, off := 0 }) 1 1] 24)
    simpa using this
  have e3 := reads_row1 e2 rfl rfl (Nat.le_refl _) (reads_a e1 rfl)
  have hb : Below w.heap.size w (((w.drewN nd).alloc (Obj.cells #[Value.int IntKind.u8 97] 5 (1, 2))).alloc (Obj.cells #[Value.slice (some { block := w.heap.size, off := 0 }) 1 1] 24)) := below_alloc (below_alloc (pw_below_drewN (Below.refl _ _) _) _) _
  have HB := Aside0.mk hb
  clear e1 e2 hb
  generalize ((w.drewN nd).alloc (Obj.cells #[Value.int IntKind.u8 97] 5 (1, 2))).alloc (Obj.cells #[Value.slice (some { block := w.heap.size, off := 0 }) 1 1] 24) = w2 at *
  refine (check_Sum.calls k _ _ [[97]] 6422626 _ e3 (Nat.le_refl _) H2.out).mono ?_
  clear e3
  rintro e w' ⟨rfl, ⟨nd2, rfl⟩⟩
  go_wp2_with fail
  rw [show (Sem.run Try.prog (convert 24 24 (Value.slice (some { block := w2.heap.size, off := 0 }) 1 1)) ((w2.drewN nd2).alloc (Obj.cells #[Value.int IntKind.u8 97] 5))) = _ from kc (w2.drewN nd2) _ _ _ _ rfl]
  go_wp2_with fail
  have e1 : ((w2.drewN nd2).alloc (Obj.cells #[Value.int IntKind.u8 97] 5 (1, 2))).heap[w2.heap.size]? = some (Obj.cells #[Value.int IntKind.u8 97] 5 (1, 2)) := blk_new (w2.drewN nd2) _
  have hb : Below w.heap.size w ((w2.drewN nd2).alloc (Obj.cells #[Value.int IntKind.u8 97] 5 (1, 2))) := below_alloc (pw_below_drewN HB.out _) _
  refine (check_Right.calls k (fun _ => True) _ _ [97] 6422626 true _ (Kd.V_mk (Nat.le_refl _) (Kd.F_mono (Kd.C_F (Kd.heap_int _) (reads_a e1 rfl)) (fun _ _ => trivial))) H3.out).mono ?_
  have HB2 := Aside0.mk hb
  clear e1 hb
  rintro e w3 ⟨rfl, hb⟩
  have HB3 := Aside0.mk (below_step HB2.out hb)
  clear hb
  go_wp2_with fail
  go_ret
  exact ⟨rfl, HB3.out⟩
end Go.Proofs.Ytnoanllncohkdaa.Q
