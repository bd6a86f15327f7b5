/- What the methods of a chain come to, in rows. -/
import Derived.Test.YtcncninjnickoaaChain
namespace Go.Proofs.Ytcncninjnickoaa.Chain
open Go.RowKit Go.Proofs.YtcncninjnickoaaW.PrintWords Go.Proofs.YtcncninjnickoaaW.PrintLast Go.Proofs.YtcncninjnickoaaW.PrintMore
open Go.Proofs.Ytcncninjnickoaa Go.Proofs.Ytcncninjnickoaa.Ring
set_option linter.unusedVariables false
set_option linter.unusedSimpArgs false

def NoChain (w : World) (v : Value) : Prop := v = .pointer none ∨ ∃ g : Nat, v = .pointer (some ⟨g, 0, none⟩) ∧ w.heap[g]? = some (.cells #[.slice none 0 0, .int .i64 0] 46 (0, 0))
theorem NoChain.below {w w' : World} {v : Value} (h : NoChain w v) (hb : Below w.heap.size w w') : NoChain w' v := by
  rcases h with h | ⟨g, h, hg⟩
  · exact .inl h
  · exact .inr ⟨g, h, (hb.block g (blk_lt hg)).trans hg⟩

theorem there_nobody {w : World} {v : Value} (hv : NoChain w v) (i : Int) : Calls Try.prog 23 #[v, .int .i64 i] w fun e w' => e = .returned (.int .i64 1) ∧ w = w' := by
  rcases hv with rfl | ⟨g, rfl, hg⟩
  · go_enter Try.func23, Try.ntmps23
    go_wp2_with fail
    go_ret
    exact ⟨by simp, rfl⟩
  · have h0 := (blk_cell hg 0).trans rfl
    go_enter Try.func23, Try.ntmps23
    go_wp2_with fail
    go_ret
    exact ⟨by simp, rfl⟩

theorem there_in {w : World} {g h N n : Nat} {f : Links} (hc : Chn w g h N n f) {i : Nat} (hi : i < N) : Calls Try.prog 23 #[.pointer (some ⟨g, 0, none⟩), .int .i64 (i : Int)] w fun e w' => e = .returned (.int .i64 0) ∧ w = w' := by
  have h0 := (blk_cell hc.obj 0).trans rfl
  have hle := hc.le
  have hi' : (i : Int) < (N : Int) := by omega
  go_enter Try.func23, Try.ntmps23
  go_wp2_with (go_at_call 22; refine (root_calls hc).mono ?_; rintro e w' ⟨rfl, rfl⟩)
  go_ret
  exact ⟨by simp, rfl⟩
theorem there_out {w : World} {g h N n : Nat} {f : Links} (hc : Chn w g h N n f) {i : Int} (hi : i < 0 ∨ (N : Int) ≤ i) : Calls Try.prog 23 #[.pointer (some ⟨g, 0, none⟩), .int .i64 i] w fun e w' => e = .returned (.int .i64 4) ∧ w = w' := by
  have h0 := (blk_cell hc.obj 0).trans rfl
  have hle := hc.le
  by_cases hneg : i < 0
  · go_enter Try.func23, Try.ntmps23
    go_wp2_with (go_at_call 22; refine (root_calls hc).mono ?_; rintro e w' ⟨rfl, rfl⟩)
    go_ret
    exact ⟨by simp, rfl⟩
  · have hi' : (N : Int) ≤ i := by omega
    go_enter Try.func23, Try.ntmps23
    go_wp2_with (go_at_call 22; refine (root_calls hc).mono ?_; rintro e w' ⟨rfl, rfl⟩)
    go_ret
    exact ⟨by simp, rfl⟩

theorem make_of (P : Program) (t e : TypeId) (z : Value) (size bytes : Nat) (ht : P.underlying t = some (.slice e)) (hinfo : (P.info? e).map (fun i => (i.zero, i.size, i.bytes)) = some (some z, size, bytes))
    (n : Nat) (hn : bytes * n ≤ 1073741824) (hn2 : n ≤ 1073741824) (hs : n * size ≤ 16777216) (W : World) :
    (Instr.makeSlice t (.int .i64 (n : Int)) (.int .i64 (n : Int))).run P W = .ok (.slice (some ⟨W.heap.size, 0, none⟩) n n) (W.alloc (.cells (madeCells z.cells (n * size)) e)) := by
  match hi : P.info? e, hinfo with
  | some i, hinfo =>
    simp only [Option.map_some, Option.some.injEq, Prod.mk.injEq] at hinfo
    obtain ⟨hz, hsz, hb⟩ := hinfo
    subst hsz; subst hb
    have hbn : (i.bytes : Int) * (n : Int) ≤ 281474976710656 := by
      have : ((i.bytes * n : Nat) : Int) ≤ 281474976710656 := by omega
      rwa [Int.natCast_mul] at this
    have := run_makeSlice (P := P) (w := W) t e i z ht hi hz .i64 .i64 n n (by omega) (Int.le_refl _) (by simpa using hs) hbn (by omega)
    simpa using this

theorem size_alloc' (w : World) (o : Obj) : (w.alloc o).heap.size = w.heap.size + 1 := Array.size_push _

theorem getElem?_madeCells (z : Array Value) (n i : Nat) (h : i < n) (hz : 0 < z.size) : (madeCells z n)[i]? = z[i % z.size]? := by
  have h2 : i % z.size < z.size := Nat.mod_lt _ hz
  simp [madeCells, Array.getElem?_map, h, h2]

def NewPost (w : World) (N : Nat) (e : Ending) (w' : World) : Prop :=
  ∃ g h f, e = .returned (.tuple #[.pointer (some ⟨g, 0, none⟩), .int .i64 0]) ∧ Chn w' g h N 0 f ∧ Ring f N [] ∧ Below w.heap.size w w' ∧ w.heap.size ≤ g ∧ w.heap.size ≤ h
set_option maxHeartbeats 1000000 in
theorem new_in {w : World} {N : Nat} (h1 : 1 ≤ N) (h2 : N ≤ 4096) : Calls Try.prog 6 #[.int .i64 (N : Int)] w (NewPost w N) := by
  have k1 : (1 : Int) ≤ (N : Int) := by omega
  have k2 : (N : Int) ≤ 4096 := by omega
  have hm : ∀ W : World, (Instr.makeSlice 44 (.int .i64 ((N : Int) + 1)) (.int .i64 ((N : Int) + 1))).run Try.prog W = .ok (.slice (some ⟨W.heap.size, 0, none⟩) (N + 1) (N + 1)) (W.alloc (.cells (madeCells #[.int .i64 0, .int .i64 0, .bool false] ((N + 1) * 3)) 49)) := fun W => by
    have := make_of Try.prog 44 49 (.agg #[.int .i64 0, .int .i64 0, .bool false]) 3 24 (by kernel_rfl) (by kernel_rfl) (N + 1) (by omega) (by omega) (by omega) W
    rw [Int.natCast_add, Int.natCast_one] at this
    exact this
  go_enter Try.func6, Try.ntmps6
  go_wp2_with (guard_target = wpList _ _ _ (Oper.mk _ (Op.nilCheck (Operand.tmp 16)) _ _ _ _ :: _) _ _; refine Aside0.out ?_)
  refine Aside0.mk ?_
  have hB := below_alloc (below_alloc (Below.refl w.heap.size w) (.cells (madeCells #[.int .i64 0, .int .i64 0, .bool false] ((N + 1) * 3)) 49)) (.cells #[.slice (some ⟨w.heap.size, 0, none⟩) (N + 1) (N + 1), .int .i64 0] 46)
  have hH : ((w.alloc (.cells (madeCells #[.int .i64 0, .int .i64 0, .bool false] ((N + 1) * 3)) 49)).alloc (.cells #[.slice (some ⟨w.heap.size, 0, none⟩) (N + 1) (N + 1), .int .i64 0] 46)).heap[w.heap.size]? = some (.cells (madeCells #[.int .i64 0, .int .i64 0, .bool false] ((N + 1) * 3)) 49) := blk_alloc (blk_new _ _) _
  have hG : ((w.alloc (.cells (madeCells #[.int .i64 0, .int .i64 0, .bool false] ((N + 1) * 3)) 49)).alloc (.cells #[.slice (some ⟨w.heap.size, 0, none⟩) (N + 1) (N + 1), .int .i64 0] 46)).heap[w.heap.size + 1]? = some (.cells #[.slice (some ⟨w.heap.size, 0, none⟩) (N + 1) (N + 1), .int .i64 0] 46) := by
    have := blk_new (w.alloc (.cells (madeCells #[.int .i64 0, .int .i64 0, .bool false] ((N + 1) * 3)) 49)) (.cells #[.slice (some ⟨w.heap.size, 0, none⟩) (N + 1) (N + 1), .int .i64 0] 46)
    rw [size_alloc'] at this
    exact this
  generalize ((w.alloc (.cells (madeCells #[.int .i64 0, .int .i64 0, .bool false] ((N + 1) * 3)) 49)).alloc (.cells #[.slice (some ⟨w.heap.size, 0, none⟩) (N + 1) (N + 1), .int .i64 0] 46)) = w1 at hB hH hG ⊢
  have hL : LinksAt w1 w.heap.size N (fun _ => ⟨0, 0, false⟩) := by
    refine ⟨_, hH, fun i hi => ?_⟩
    rw [getElem?_madeCells _ _ _ (by omega) (by simp), getElem?_madeCells _ _ _ (by omega) (by simp), getElem?_madeCells _ _ _ (by omega) (by simp)]
    have e0 : i * 3 % 3 = 0 := by omega
    have e1 : (i * 3 + 1) % 3 = 1 := by omega
    have e2 : (i * 3 + 2) % 3 = 2 := by omega
    simp [e0, e1, e2]
  have hC : Chn w1 (w.heap.size + 1) w.heap.size N 0 (fun _ => ⟨0, 0, false⟩) := ⟨hG, hL, by omega, h1, h2⟩
  have h0 := (blk_cell hG 0).trans rfl
  obtain ⟨cA, cB, cI⟩ := hL.cells (i := N) (Nat.le_refl _)
  have f0 := hL.frozen (N * 3)
  have f1 := hL.frozen (N * 3 + 1)
  have f2 := hL.frozen (N * 3 + 2)
  have HB := Aside0.mk (((((Keeps.of_below hB (fun _ => False)).set (p := ⟨w.heap.size, N * 3, none⟩) (Or.inr (Nat.le_refl _)) (.int .i64 (N : Int))).set (p := ⟨w.heap.size, N * 3 + 1, none⟩) (Or.inr (Nat.le_refl _)) (.int .i64 (N : Int))).set (p := ⟨w.heap.size, N * 3 + 2, none⟩) (Or.inr (Nat.le_refl _)) (.bool false)).below (Nat.le_refl _) (fun _ h => h.elim))
  have HC := Aside0.mk (hC.set3 N N N false)
  clear hB hH hG hL hC
  go_wp2_with fail
  refine bodyPost_ret (results_tmp2 rfl _ _ _) rfl ?_
  unfold NewPost
  refine ⟨w.heap.size + 1, w.heap.size, _, rfl, HC.out, ?_, HB.out, by omega, by omega⟩
  refine new_ring ?_ ?_
  · simp [upd]
  · intro i hi
    simp only [upd]
    split <;> rfl
theorem new_out {w : World} {n : Int} (h : n < 1 ∨ 4096 < n) : Calls Try.prog 6 #[.int .i64 n] w fun e w' => e = .returned (.tuple #[.pointer none, .int .i64 2]) ∧ w = w' := by
  by_cases h1 : n < 1
  · go_enter Try.func6, Try.ntmps6
    go_wp2_with fail
    exact bodyPost_ret (results_tmp2 rfl _ _ _) rfl ⟨rfl, rfl⟩
  · have h2 : 4096 < n := by omega
    go_enter Try.func6, Try.ntmps6
    go_wp2_with fail
    exact bodyPost_ret (results_tmp2 rfl _ _ _) rfl ⟨rfl, rfl⟩
end Go.Proofs.Ytcncninjnickoaa.Chain
