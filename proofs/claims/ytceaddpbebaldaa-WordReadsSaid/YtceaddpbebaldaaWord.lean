/- A reader of bytes in memory: what its methods' calls come to. -/
import Derived.Test.YtceaddpbebaldaaProg
import Derived.WalkKit
import Derived.KernelRfl
import Derived.Test.YtceaddpbebaldaaKeptL
import Derived.Test.YtceaddpbebaldaaQ1
import Derived.WalkSpells
import Derived.IntWalk
import Derived.LoopTactic
namespace Go.Proofs.Ytceaddpbebaldaa.Word
open Go.RowKit Go.Proofs.YtceaddpbebaldaaW.PrintWords Go.Proofs.YtceaddpbebaldaaW.PrintLast Go.Proofs.YtceaddpbebaldaaW.PrintMore
open Go.Proofs.Ytceaddpbebaldaa Go.Proofs.Ytceaddpbebaldaa.Vals
set_option linter.unusedVariables false
set_option linter.unusedSimpArgs false

abbrev Bys := IsL (Kd.int .u8)
theorem info_byte : (Try.prog.info? 5).map (fun i => (i.zero, i.size, i.bytes)) = some (some (.int .u8 0), 1, 1) := by kernel_rfl

theorem nil_eq (c : Nat) (W : World) : (binOp .eql 22 (.slice none 0 c) (.slice none 0 0)).run Try.prog W = .ok (.bool true) W := by kernel_rfl
theorem nil_ne (ad : Addr) (n c : Nat) (W : World) : (binOp .eql 22 (.slice (some ad) n c) (.slice none 0 0)).run Try.prog W = .ok (.bool false) W := by kernel_rfl

theorem R_empty {α : Type} (d : Kd α) (W : World) (base e : Nat) (hb : base ≤ W.heap.size) : d.R e (W.alloc (.cells #[] e)) base (fun _ => True) (.slice (some ⟨W.heap.size, 0, none⟩) 0 0) [] :=
  ⟨fun _ _ => trivial, OwnRow.lit W base (Reps.none _ _) hb (by simp)⟩

theorem clone_calls {w : World} {v : Value} {bs : List Int} (h : Bys bs v w) (hl : bs.length ≤ 140737488351232) : Calls Try.prog 26 #[v] w fun e w' => ∃ v', e = .returned v' ∧ Kd.R (Kd.int .u8) 5 w' w.heap.size (fun _ => True) v' bs ∧ Below w.heap.size w w' := by
  obtain ⟨A, c, rfl, hc, hC⟩ := h
  have HC := Aside0.mk hC
  rcases A with _ | ad
  · have h0 : bs = [] := by
      rcases bs with _ | ⟨b, t⟩
      · rfl
      · obtain ⟨ad, h1, _⟩ := hC.2.2 (by simp)
        cases h1
    subst h0
    clear hC
    have hq := nil_eq c
    go_enter Try.func26, Try.ntmps26
    go_wp2_with fail
    go_ret
    exact ⟨_, rfl, Kd.R_nil _ _ _ _ _, Below.refl _ _⟩
  · clear hC
    have hq := nil_ne ad bs.length c
    go_enter Try.func26, Try.ntmps26
    go_wp2_with (first | (at_builtin; refine Kd.R_append_rows (Kd.int .u8) (w0 := w) w.heap.size rfl (.tmp 5) (.tmp 6) 22 5 (.int .u8 0) 1 rfl Try.underlying22 info_byte rfl (by decide) (by omega) _ [] bs _ _ _ (fun _ => True) (fun _ => False) rfl rfl ?aO ?aR (fun _ _ h => h) (fun _ h => h.elim) (fun _ _ => trivial) ?aB ?aS ?aL ?_; rotate_right; intro v1 w1 ho hb hg hat))
    case aO => exact R_empty _ _ _ _ (Nat.le_refl _)
    case aR => exact Kd.C_below HC.out (below_alloc (Below.refl _ _) _)
    case aB => exact below_alloc (Below.refl _ _) _
    case aS => simp
    case aL => simp; omega
    have HO := Aside0.mk ho
    have HB := Aside0.mk hb
    clear ho hb hg hat
    go_wp2_with fail
    go_ret
    exact ⟨_, rfl, HO.out, HB.out⟩

/-- The bytes of a number, the greatest first. -/
def be : Nat → Int → List Int
  | 0, _ => []
  | k + 1, v => (v / 2 ^ (8 * k) % 256) :: be k v
theorem be_length (k : Nat) (v : Int) : (be k v).length = k := by
  induction k with
  | zero => rfl
  | succ k ih => simp [be, ih]
def wide (n : Int) : Prop := n = 1 ∨ n = 2 ∨ n = 4 ∨ n = 8
instance (n : Int) : Decidable (wide n) := by unfold wide; infer_instance

theorem right_calls (n : Int) (w : World) : Calls Try.prog 27 #[.int .i64 n] w fun e w' => e = .returned (.bool (decide (wide n))) ∧ w = w' := by
  by_cases h1 : n = 1
  · subst h1
    go_enter Try.func27, Try.ntmps27
    go_wp2_with fail
    go_ret
    exact ⟨by simp [wide], rfl⟩
  · have e1 : (n == 1) = false := by simp [h1]
    by_cases h2 : n = 2
    · subst h2
      go_enter Try.func27, Try.ntmps27
      go_wp2_with fail
      go_ret
      exact ⟨by simp [wide], rfl⟩
    · have e2 : (n == 2) = false := by simp [h2]
      by_cases h4 : n = 4
      · subst h4
        go_enter Try.func27, Try.ntmps27
        go_wp2_with fail
        go_ret
        exact ⟨by simp [wide], rfl⟩
      · have e4 : (n == 4) = false := by simp [h4]
        by_cases h8 : n = 8
        · subst h8
          go_enter Try.func27, Try.ntmps27
          go_wp2_with fail
          go_ret
          exact ⟨by simp [wide], rfl⟩
        · have e8 : (n == 8) = false := by simp [h8]
          go_enter Try.func27, Try.ntmps27
          go_wp2_with fail
          go_ret
          exact ⟨by simp [wide, h1, h2, h4, h8], rfl⟩

theorem put_not {w : World} {v : Value} {bs : List Int} (h : Bys bs v w) (hl : bs.length ≤ 140737488351232) {n x : Int} (hn : ¬ wide n) : Calls Try.prog 9 #[v, .int .i64 n, .int .u64 x] w fun e w' => ∃ v', e = .returned v' ∧ Kd.R (Kd.int .u8) 5 w' w.heap.size (fun _ => True) v' bs ∧ Below w.heap.size w w' := by
  have HCL := Aside0.mk (clone_calls h hl)
  clear h
  go_enter Try.func9, Try.ntmps9
  go_wp2_with fail
  refine HCL.out.mono ?_
  rintro e w1 ⟨v1, rfl, hR, hb⟩
  have HR := Aside0.mk hR
  have HB := Aside0.mk hb
  clear hR hb
  have hr := right_calls n w1
  rw [decide_eq_false hn] at hr
  have HW := Aside0.mk hr
  clear hr
  go_wp2_with fail
  refine HW.out.mono ?_
  rintro e w' ⟨rfl, rfl⟩
  go_wp2_with fail
  go_ret
  exact ⟨_, rfl, HR.out, HB.out⟩

set_option maxHeartbeats 1000000 in
theorem put_wide {w : World} {v : Value} {bs : List Int} (h : Bys bs v w) (hl : bs.length ≤ 140737488351232) {n : Nat} {x : Int} (hn : wide n) (hx : 0 ≤ x) (hx2 : x < 18446744073709551616) : Calls Try.prog 9 #[v, .int .i64 (n : Int), .int .u64 x] w fun e w' => ∃ v', e = .returned v' ∧ Kd.R (Kd.int .u8) 5 w' w.heap.size (fun _ => True) v' (bs ++ be n x) ∧ Below w.heap.size w w' := by
  have hn8 : n ≤ 8 := by unfold wide at hn; omega
  have HCL := Aside0.mk (clone_calls h hl)
  clear h
  go_enter Try.func9, Try.ntmps9
  go_wp2_with fail
  refine HCL.out.mono ?_
  rintro e w1 ⟨v1, rfl, hR, hb⟩
  have HR := Aside0.mk hR
  have HB := Aside0.mk hb
  clear hR hb
  have hr := right_calls (n : Int) w1
  rw [decide_eq_true hn] at hr
  have HW := Aside0.mk hr
  clear hr
  go_wp2_with fail
  refine HW.out.mono ?_
  rintro e w' ⟨rfl, rfl⟩
  go_wp2_with fail
  go_loopg [7, 8] (n + 1) (fun kq v7 v8 w' => ∃ (j : Nat) (pre : List Int), v8 = .int .i64 ((j : Int) - 1) ∧ Aside0 (kq = j + 1 ∧ j ≤ n ∧ pre ++ be j x = be n x) ∧ Aside0 (Kd.R (Kd.int .u8) 5 w' w.heap.size (fun _ => True) v7 (bs ++ pre)) ∧ Aside0 (Below w.heap.size w w'))
  case atStart => exact ⟨n, [], rfl, ⟨rfl, Nat.le_refl _, rfl⟩, ⟨by rw [List.append_nil]; exact HR.out⟩, HB⟩
  case round =>
    clear HR HB
    obtain ⟨j, pre, rfl, HJ, HR, HB⟩ := hrel
    rcases j with _ | j
    · have d1 : decide ((0 : Int) ≤ ((0 : Nat) : Int) - 1) = false := by decide
      go_wp2_with fail
      go_ret
      have hp := HJ.out.2.2
      simp only [be, List.append_nil] at hp
      rw [← hp]
      exact ⟨_, rfl, HR.out, HB.out⟩
    · have hj : j ≤ 7 := by have := HJ.out; omega
      have e1 : ((j + 1 : Nat) : Int) - 1 = (j : Int) := by omega
      rw [e1]
      have d1 : decide ((0 : Int) ≤ (j : Int)) = true := decide_eq_true (by omega)
      have hpl : (bs ++ pre).length ≤ 140737488351240 := by
        have h1 := congrArg List.length HJ.out.2.2
        simp only [List.length_append, be_length] at h1
        rw [List.length_append]
        omega
      go_wp2_with (first | (at_builtin; refine Kd.R_append (Kd.int .u8) (w0 := w) w.heap.size rfl (.tmp 21) (.tmp 27) 22 5 (.int .u8 0) 1 rfl Try.underlying22 info_byte rfl (by decide) (by omega) u7 (bs ++ pre) (x / 2 ^ (8 * j) % 256) [.int .u8 (x / 2 ^ (8 * j) % 256)] (fun _ => True) (fun _ => False) rfl rfl ?aP (fun _ hk => hk.elim) ?aF ?aO ?aB ?aS ?aL ?_; (case aP => exact rfl); (case aB => exact HB.out); (case aF => exact (fun _ _ => trivial)); (case aO => exact HR.out); (case aS => exact (below_size HB.out)); (case aL => omega); intro v112 w9 ho hb hg hat; have HO2 := Aside0.mk ho; have HB2 := Aside0.mk hb; clear ho hb hg hat))
      go_roundg (j + 1)
      case measure => have := HJ.out; omega
      case rel =>
        refine ⟨j, pre ++ [x / 2 ^ (8 * j) % 256], rfl, ⟨rfl, by have := HJ.out; omega, ?_⟩, ⟨?_⟩, HB2⟩
        · rw [← HJ.out.2.2]
          simp [be]
        · rw [← List.append_assoc]
          exact HO2.out
end Go.Proofs.Ytceaddpbebaldaa.Word
