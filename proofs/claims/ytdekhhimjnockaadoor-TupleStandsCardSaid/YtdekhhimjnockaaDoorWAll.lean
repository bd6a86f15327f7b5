/- A reader of bytes in memory: what its methods' calls come to. -/
import Derived.Test.YtdekhhimjnockaaDoorProg
import Derived.WalkKit
import Derived.KernelRfl
import Derived.Test.YtdekhhimjnockaaDoorKeptL
import Derived.Test.YtdekhhimjnockaaDoorQ1
import Derived.WalkSpells
import Derived.IntWalk
import Derived.LoopTactic
import Derived.Lib.Bytes
namespace Go.Proofs.YtdekhhimjnockaaDoor.Word
open Go.RowKit Go.Proofs.YtdekhhimjnockaaDoorW.PrintWords Go.Proofs.YtdekhhimjnockaaDoorW.PrintLast Go.Proofs.YtdekhhimjnockaaDoorW.PrintMore
open Go.Proofs.YtdekhhimjnockaaDoor Go.Proofs.YtdekhhimjnockaaDoor.Vals
set_option linter.unusedVariables false
set_option linter.unusedSimpArgs false

abbrev Bys := IsL (Kd.int .u8)
theorem info_byte : (Tryd.prog.info? 5).map (fun i => (i.zero, i.size, i.bytes)) = some (some (.int .u8 0), 1, 1) := by kernel_rfl

theorem nil_eq (c : Nat) (W : World) : (binOp .eql 55 (.slice none 0 c) (.slice none 0 0)).run Tryd.prog W = .ok (.bool true) W := by kernel_rfl
theorem nil_ne (ad : Addr) (n c : Nat) (W : World) : (binOp .eql 55 (.slice (some ad) n c) (.slice none 0 0)).run Tryd.prog W = .ok (.bool false) W := by kernel_rfl

theorem R_empty {α : Type} (d : Kd α) (W : World) (base e : Nat) (hb : base ≤ W.heap.size) : d.R e (W.alloc (.cells #[] e)) base (fun _ => True) (.slice (some ⟨W.heap.size, 0, none⟩) 0 0) [] :=
  ⟨fun _ _ => trivial, OwnRow.lit W base (Reps.none _ _) hb (by simp)⟩

theorem clone_calls {w : World} {v : Value} {bs : List Int} (h : Bys bs v w) (hl : bs.length ≤ 140737488351232) : Calls Tryd.prog 35 #[v] w fun e w' => ∃ v', e = .returned v' ∧ Kd.R (Kd.int .u8) 5 w' w.heap.size (fun _ => True) v' bs ∧ Below w.heap.size w w' := by
  obtain ⟨A, c, rfl, hc, hC⟩ := h
  have HC := Aside0.mk hC
  rcases A with _ | ad
  · have h0 : bs = [] := by
      rcases bs with _ | ⟨b, t⟩
      · rfl
      · obtain ⟨ad, h1, _⟩ := hC.2.2 (by simp)
        cases h1
    subst h0
    clear hC
    have hq := nil_eq c
    go_enter Tryd.func35, Tryd.ntmps35
    go_wp2_with fail
    go_ret
    exact ⟨_, rfl, Kd.R_nil _ _ _ _ _, Below.refl _ _⟩
  · clear hC
    have hq := nil_ne ad bs.length c
    go_enter Tryd.func35, Tryd.ntmps35
    go_wp2_with (first | (at_builtin; refine Kd.R_append_rows (Kd.int .u8) (w0 := w) w.heap.size rfl (.tmp 5) (.tmp 6) 55 5 (.int .u8 0) 1 rfl Tryd.underlying55 info_byte rfl (by decide) (by omega) _ [] bs _ _ _ (fun _ => True) (fun _ => False) rfl rfl ?aO ?aR (fun _ _ h => h) (fun _ h => h.elim) (fun _ _ => trivial) ?aB ?aS ?aL ?_; rotate_right; intro v1 w1 ho hb hg hat))
    case aO => exact R_empty _ _ _ _ (Nat.le_refl _)
    case aR => exact Kd.C_below HC.out (below_alloc (Below.refl _ _) _)
    case aB => exact below_alloc (Below.refl _ _) _
    case aS => simp
    case aL => simp; omega
    have HO := Aside0.mk ho
    have HB := Aside0.mk hb
    clear ho hb hg hat
    go_wp2_with fail
    go_ret
    exact ⟨_, rfl, HO.out, HB.out⟩

/-- The bytes of a number, the greatest first. -/
def be : Nat → Int → List Int
  | 0, _ => []
  | k + 1, v => (v / 2 ^ (8 * k) % 256) :: be k v
theorem be_length (k : Nat) (v : Int) : (be k v).length = k := by
  induction k with
  | zero => rfl
  | succ k ih => simp [be, ih]
def wide (n : Int) : Prop := n = 1 ∨ n = 2 ∨ n = 4 ∨ n = 8
instance (n : Int) : Decidable (wide n) := by unfold wide; infer_instance

theorem right_calls (n : Int) (w : World) : Calls Tryd.prog 36 #[.int .i64 n] w fun e w' => e = .returned (.bool (decide (wide n))) ∧ w = w' := by
  by_cases h1 : n = 1
  · subst h1
    go_enter Tryd.func36, Tryd.ntmps36
    go_wp2_with fail
    go_ret
    exact ⟨by simp [wide], rfl⟩
  · have e1 : (n == 1) = false := by simp [h1]
    by_cases h2 : n = 2
    · subst h2
      go_enter Tryd.func36, Tryd.ntmps36
      go_wp2_with fail
      go_ret
      exact ⟨by simp [wide], rfl⟩
    · have e2 : (n == 2) = false := by simp [h2]
      by_cases h4 : n = 4
      · subst h4
        go_enter Tryd.func36, Tryd.ntmps36
        go_wp2_with fail
        go_ret
        exact ⟨by simp [wide], rfl⟩
      · have e4 : (n == 4) = false := by simp [h4]
        by_cases h8 : n = 8
        · subst h8
          go_enter Tryd.func36, Tryd.ntmps36
          go_wp2_with fail
          go_ret
          exact ⟨by simp [wide], rfl⟩
        · have e8 : (n == 8) = false := by simp [h8]
          go_enter Tryd.func36, Tryd.ntmps36
          go_wp2_with fail
          go_ret
          exact ⟨by simp [wide, h1, h2, h4, h8], rfl⟩

theorem put_not {w : World} {v : Value} {bs : List Int} (h : Bys bs v w) (hl : bs.length ≤ 140737488351232) {n x : Int} (hn : ¬ wide n) : Calls Tryd.prog 28 #[v, .int .i64 n, .int .u64 x] w fun e w' => ∃ v', e = .returned v' ∧ Kd.R (Kd.int .u8) 5 w' w.heap.size (fun _ => True) v' bs ∧ Below w.heap.size w w' := by
  have HCL := Aside0.mk (clone_calls h hl)
  clear h
  go_enter Tryd.func28, Tryd.ntmps28
  go_wp2_with fail
  refine HCL.out.mono ?_
  rintro e w1 ⟨v1, rfl, hR, hb⟩
  have HR := Aside0.mk hR
  have HB := Aside0.mk hb
  clear hR hb
  have hr := right_calls n w1
  rw [decide_eq_false hn] at hr
  have HW := Aside0.mk hr
  clear hr
  go_wp2_with fail
  refine HW.out.mono ?_
  rintro e w' ⟨rfl, rfl⟩
  go_wp2_with fail
  go_ret
  exact ⟨_, rfl, HR.out, HB.out⟩

set_option maxHeartbeats 1000000 in
theorem put_wide {w : World} {v : Value} {bs : List Int} (h : Bys bs v w) (hl : bs.length ≤ 140737488351232) {n : Nat} {x : Int} (hn : wide n) (hx : 0 ≤ x) (hx2 : x < 18446744073709551616) : Calls Tryd.prog 28 #[v, .int .i64 (n : Int), .int .u64 x] w fun e w' => ∃ v', e = .returned v' ∧ Kd.R (Kd.int .u8) 5 w' w.heap.size (fun _ => True) v' (bs ++ be n x) ∧ Below w.heap.size w w' := by
  have hn8 : n ≤ 8 := by unfold wide at hn; omega
  have HCL := Aside0.mk (clone_calls h hl)
  clear h
  go_enter Tryd.func28, Tryd.ntmps28
  go_wp2_with fail
  refine HCL.out.mono ?_
  rintro e w1 ⟨v1, rfl, hR, hb⟩
  have HR := Aside0.mk hR
  have HB := Aside0.mk hb
  clear hR hb
  have hr := right_calls (n : Int) w1
  rw [decide_eq_true hn] at hr
  have HW := Aside0.mk hr
  clear hr
  go_wp2_with fail
  refine HW.out.mono ?_
  rintro e w' ⟨rfl, rfl⟩
  go_wp2_with fail
  go_loopg [7, 8] (n + 1) (fun kq v7 v8 w' => ∃ (j : Nat) (pre : List Int), v8 = .int .i64 ((j : Int) - 1) ∧ Aside0 (kq = j + 1 ∧ j ≤ n ∧ pre ++ be j x = be n x) ∧ Aside0 (Kd.R (Kd.int .u8) 5 w' w.heap.size (fun _ => True) v7 (bs ++ pre)) ∧ Aside0 (Below w.heap.size w w'))
  case atStart => exact ⟨n, [], rfl, ⟨rfl, Nat.le_refl _, rfl⟩, ⟨by rw [List.append_nil]; exact HR.out⟩, HB⟩
  case round =>
    clear HR HB
    obtain ⟨j, pre, rfl, HJ, HR, HB⟩ := hrel
    rcases j with _ | j
    · have d1 : decide ((0 : Int) ≤ ((0 : Nat) : Int) - 1) = false := by decide
      go_wp2_with fail
      go_ret
      have hp := HJ.out.2.2
      simp only [be, List.append_nil] at hp
      rw [← hp]
      exact ⟨_, rfl, HR.out, HB.out⟩
    · have hj : j ≤ 7 := by have := HJ.out; omega
      have e1 : ((j + 1 : Nat) : Int) - 1 = (j : Int) := by omega
      rw [e1]
      have d1 : decide ((0 : Int) ≤ (j : Int)) = true := decide_eq_true (by omega)
      have hpl : (bs ++ pre).length ≤ 140737488351240 := by
        have h1 := congrArg List.length HJ.out.2.2
        simp only [List.length_append, be_length] at h1
        rw [List.length_append]
        omega
      go_wp2_with (first | (at_builtin; refine Kd.R_append (Kd.int .u8) (w0 := w) w.heap.size rfl (.tmp 21) (.tmp 27) 55 5 (.int .u8 0) 1 rfl Tryd.underlying55 info_byte rfl (by decide) (by omega) u7 (bs ++ pre) (x / 2 ^ (8 * j) % 256) [.int .u8 (x / 2 ^ (8 * j) % 256)] (fun _ => True) (fun _ => False) rfl rfl ?aP (fun _ hk => hk.elim) ?aF ?aO ?aB ?aS ?aL ?_; (case aP => exact rfl); (case aB => exact HB.out); (case aF => exact (fun _ _ => trivial)); (case aO => exact HR.out); (case aS => exact (below_size HB.out)); (case aL => omega); intro v112 w9 ho hb hg hat; have HO2 := Aside0.mk ho; have HB2 := Aside0.mk hb; clear ho hb hg hat))
      go_roundg (j + 1)
      case measure => have := HJ.out; omega
      case rel =>
        refine ⟨j, pre ++ [x / 2 ^ (8 * j) % 256], rfl, ⟨rfl, by have := HJ.out; omega, ?_⟩, ⟨?_⟩, HB2⟩
        · rw [← HJ.out.2.2]
          simp [be]
        · rw [← List.append_assoc]
          exact HO2.out
end Go.Proofs.YtdekhhimjnockaaDoor.Word
/- A reader's methods: Open, spoil, Raw, Left, Err, End. -/
namespace Go.Proofs.YtdekhhimjnockaaDoor.Word
open Go.RowKit Go.Proofs.YtdekhhimjnockaaDoorW.PrintWords Go.Proofs.YtdekhhimjnockaaDoorW.PrintLast Go.Proofs.YtdekhhimjnockaaDoorW.PrintMore
open Go.Proofs.YtdekhhimjnockaaDoor Go.Proofs.YtdekhhimjnockaaDoor.Vals
set_option linter.unusedVariables false
set_option linter.unusedSimpArgs false

structure Rd (w : World) (g : Nat) (bs : List Int) (e : Int) : Prop where
  ex : ∃ v, w.heap[g]? = some (.cells #[v, .int .i64 e] 69 (0, 0)) ∧ Bys bs v w ∧ (∀ k, v.ownBlock = some k → k ≠ g)
  le : bs.length ≤ 140737488351232

theorem Rd.lt {w : World} {g : Nat} {bs : List Int} {e : Int} (h : Rd w g bs e) : g < w.heap.size := by
  obtain ⟨v, h1, _⟩ := h.ex
  exact blk_lt h1
theorem Rd.below {w w' : World} {g : Nat} {bs : List Int} {e : Int} (h : Rd w g bs e) (hb : Below w.heap.size w w') : Rd w' g bs e := by
  obtain ⟨v, h1, h2, h3⟩ := h.ex
  exact ⟨⟨v, (hb.block g (blk_lt h1)).trans h1, h2.mono hb, h3⟩, h.le⟩
/-- The reader's cells are given new values. -/
theorem Rd.set {w : World} {g : Nat} {v v' : Value} {e e' : Int} {bs' : List Int} (h1 : w.heap[g]? = some (.cells #[v, .int .i64 e] 69 (0, 0))) (h2 : Bys bs' v' w) (h3 : ∀ k, v'.ownBlock = some k → k ≠ g) (hl : bs'.length ≤ 140737488351232) {w' : World}
    (hw : w'.heap[g]? = some (.cells #[v', .int .i64 e'] 69 (0, 0))) (hk : Keeps (fun k => k = g) w w') : Rd w' g bs' e' :=
  ⟨⟨v', hw, IsL.keeps (w := w) (w' := w') (S := fun k => k = g) (d := Kd.int .u8) (fun x cs h => h) h2 hk (fun k hk h => h3 k hk h), h3⟩, hl⟩

theorem open_calls {w : World} {v : Value} {bs : List Int} (h : Bys bs v w) (hl : bs.length ≤ 140737488351232) : Calls Tryd.prog 24 #[v] w fun e w' => ∃ g, e = .returned (.pointer (some ⟨g, 0, none⟩)) ∧ Rd w' g bs 0 ∧ Below w.heap.size w w' ∧ w.heap.size ≤ g := by
  have HCL := Aside0.mk (clone_calls h hl)
  clear h
  go_enter Tryd.func24, Tryd.ntmps24
  go_wp2_with fail
  refine HCL.out.mono ?_
  rintro e w1 ⟨v1, rfl, hR, hb⟩
  have HB := Aside0.mk hb
  have HLT := Aside0.mk (Kd.R_lt hR)
  obtain ⟨A, c, rfl, hc, hC⟩ := Kd.R_reads hR
  have HI := Aside0.mk (show Bys bs _ _ from ⟨A, c, rfl, hc, hC⟩)
  clear hR hb hc hC
  go_wp2_with fail
  go_ret
  refine ⟨w1.heap.size, rfl, ⟨⟨_, blk_new _ _, IsL.mono HI.out (below_alloc (Below.refl _ _) _), ?_⟩, hl⟩, below_alloc HB.out _, HB.out.size⟩
  intro k hk h
  have := HLT.out k hk
  omega

theorem spoil_calls {w : World} {g : Nat} {bs : List Int} {e : Int} (h : Rd w g bs e) (r : Int) : Calls Tryd.prog 44 #[.pointer (some ⟨g, 0, none⟩), .int .i64 r] w fun en w' => (∃ v, en = .returned v) ∧ Rd w' g [] (if e = 0 then r else e) ∧ Keeps (fun k => k = g) w w' := by
  obtain ⟨v, h1, h2, h3⟩ := h.ex
  have h0 := (blk_cell h1 0).trans rfl
  have he := (blk_cell h1 1).trans rfl
  have f0 := blk_frozen h1 0
  have f1 := blk_frozen h1 1
  have H1 := Aside0.mk h1
  clear h h1 h2 h3
  by_cases h : e = 0
  · subst h
    go_enter Tryd.func44, Tryd.ntmps44
    go_wp2_with fail
    refine bodyPost_end (results_none rfl _ _ _) rfl ⟨⟨_, rfl⟩, ?_, ?_⟩
    · exact Rd.set H1.out (v' := .slice none 0 0) (bs' := []) (IsL.nil _ _) (fun k hk => by simp [Value.ownBlock] at hk) (by simp) ((blk_set (blk_set H1.out _ _) _ _).trans rfl) (((Keeps.refl (fun k => k = g) w).set (p := ⟨g, 1, none⟩) (Or.inl rfl) _).set (p := ⟨g, 0, none⟩) (Or.inl rfl) _)
    · exact ((Keeps.refl (fun k => k = g) w).set (p := ⟨g, 1, none⟩) (Or.inl rfl) _).set (p := ⟨g, 0, none⟩) (Or.inl rfl) _
  · have e1 : (e == 0) = false := by simp [h]
    rw [if_neg h]
    go_enter Tryd.func44, Tryd.ntmps44
    go_wp2_with fail
    refine bodyPost_end (results_none rfl _ _ _) rfl ⟨⟨_, rfl⟩, ?_, ?_⟩
    · exact Rd.set H1.out (v' := .slice none 0 0) (bs' := []) (IsL.nil _ _) (fun k hk => by simp [Value.ownBlock] at hk) (by simp) ((blk_set H1.out _ _).trans rfl) ((Keeps.refl (fun k => k = g) w).set (p := ⟨g, 0, none⟩) (Or.inl rfl) _)
    · exact (Keeps.refl (fun k => k = g) w).set (p := ⟨g, 0, none⟩) (Or.inl rfl) _

set_option linter.unusedVariables false
set_option linter.unusedSimpArgs false

/-- What Raw leaves of the bytes, of the error; what it answers. -/
def rawB (bs : List Int) (e n : Int) : List Int := if e ≠ 0 then bs else if n < 0 then [] else if (bs.length : Int) < n then [] else bs.drop n.toNat
def rawE (bs : List Int) (e n : Int) : Int := if e ≠ 0 then e else if n < 0 then 2 else if (bs.length : Int) < n then 5 else 0
def rawO (bs : List Int) (e n : Int) : List Int := if e ≠ 0 then [] else if n < 0 then [] else if (bs.length : Int) < n then [] else bs.take n.toNat

def RawPost (w : World) (g : Nat) (bs' : List Int) (e' : Int) (out : List Int) (en : Ending) (w' : World) : Prop :=
  ∃ v, en = .returned v ∧ Bys out v w' ∧ (∀ k, v.ownBlock = some k → w.heap.size ≤ k) ∧ Rd w' g bs' e' ∧ Keeps (fun k => k = g) w w'

theorem raw_ok {w : World} {g : Nat} {bs : List Int} (h : Rd w g bs 0) {n : Nat} (hn : n ≤ bs.length) : Calls Tryd.prog 37 #[.pointer (some ⟨g, 0, none⟩), .int .i64 (n : Int)] w (RawPost w g (bs.drop n) 0 (bs.take n)) := by
  have hle := h.le
  obtain ⟨v, h1, ⟨A, c, rfl, hc, hC⟩, h3⟩ := h.ex
  have h0 := (blk_cell h1 0).trans rfl
  have he := (blk_cell h1 1).trans rfl
  have hlt := h.lt
  obtain ⟨i5, hi5⟩ : ∃ i5, Tryd.prog.info? 5 = some i5 := Option.isSome_iff_exists.1 (by rfl)
  have hz5 : i5.size = 1 := by
    have : (Tryd.prog.info? 5).map (·.size) = some 1 := by kernel_rfl
    rw [hi5] at this
    simpa using this
  have hs := fun W => cut_drop (P := Tryd.prog) 55 5 Tryd.underlying55 hi5 .i64 A bs.length c n hn hc W
  rw [hz5] at hs
  have hCD := Kd.C_drop (m := n) hC hn hc
  rw [show (if c = n then A else A.map (·.add (n * (Kd.int .u8).sz))) = cutA A c n 1 from rfl] at hCD
  have hAB : ∀ k, (Value.slice (cutA A c n 1) (bs.length - n) (c - n)).ownBlock = some k → k ≠ g := by
    intro k hk
    apply h3 k
    unfold cutA at hk
    split at hk
    · cases A <;> exact hk
    · rcases A with _ | ad
      · cases hk
      · simp only [Option.map_some, Value.ownBlock] at hk ⊢
        rw [← hk]
        unfold Addr.add
        split <;> rfl
  have HAB := Aside0.mk hAB
  generalize cutA A c n 1 = A1 at hs hCD HAB
  have HC := Aside0.mk hC
  have HCD := Aside0.mk hCD
  have H1 := Aside0.mk h1
  have hdl : (bs.drop n).length = bs.length - n := List.length_drop
  have d1 : decide ((n : Int) < 0) = false := decide_eq_false (by omega)
  have d2 : decide ((bs.length : Int) < (n : Int)) = false := decide_eq_false (by omega)
  have hinfo : (Tryd.prog.info? 5).map (·.size) = some 1 := by kernel_rfl
  clear h h1 h3 hC hCD hi5 hz5 hAB
  go_enter Tryd.func37, Tryd.ntmps37
  go_wp2_with (guard_target = wpList _ _ _ (Oper.mk (some 32) _ _ _ _ _ :: _) _ _; refine Kd.R_make (Kd.int .u8) (w0 := w) w.heap.size 5 rfl (N := 32) rfl 55 (.tmp 31) (.tmp 31) rfl (n : Int) rfl rfl Tryd.underlying55 (.int .u8 0) 1 info_byte rfl (by decide) (by omega) (0 : Int) (ok := fun _ => True) (okp := fun _ => True) rfl (fun _ _ => trivial) trivial (by omega) (by simp; omega) (Below.refl _ _) (Nat.le_refl _) ?_; intro v1 w1 hR hb hg hat; have c0 := (hb.cell (p := ⟨g, 0, none⟩) hlt).trans h0; have HR := Aside0.mk hR; have HB := Aside0.mk hb; clear he hR hb hg hat; refine Aside0.out ?_)
  refine Aside0.mk ?_
  go_wp2_with (guard_target = wpList _ _ _ (Oper.mk (some 38) _ _ _ _ _ :: _) _ _; refine Aside0.out ?_)
  refine Aside0.mk ?_
  refine Kd.R_copy (enc := Value.int .u8) (h1 := fun _ => rfl) (0 : Int) (w0 := w) w.heap.size rfl (.tmp 33) (.tmp 37) 55 55 5 rfl Tryd.underlying55 hinfo v1 (List.replicate n 0) bs A bs.length c (fun _ => True) rfl rfl ?_ (Kd.C_below HC.out HB.out) HB.out HB.out.size ?_
  · have := HR.out
    rwa [Int.toNat_natCast] at this
  intro w2 hR hb hg
  have c0 := (hb.cell (p := ⟨g, 0, none⟩) hlt).trans h0
  have f0 := (hb.frozen (p := ⟨g, 0, none⟩) hlt).trans (blk_frozen H1.out 0)
  have ht : List.take (min bs.length (List.replicate n (0 : Int)).length) bs ++ List.drop (min bs.length (List.replicate n (0 : Int)).length) (List.replicate n 0) = bs.take n := by
    rw [List.length_replicate, Nat.min_eq_right hn, List.drop_of_length_le (by simp), List.append_nil]
  rw [ht] at hR
  have HR2 := Aside0.mk hR
  have HB2 := Aside0.mk hb
  have hb1 := (blk_below H1.out hb)
  have HG := Aside0.mk hb1
  clear hR hb hg HR HB h0 ht hb1
  go_wp2_with fail
  go_ret
  have hk : Keeps (fun k => k = g) w (w2.setCell ⟨g, 0, none⟩ (.slice A1 (bs.length - n) (c - n))) := (Keeps.of_below HB2.out (fun k => k = g)).set (p := ⟨g, 0, none⟩) (Or.inl rfl) _
  obtain ⟨A2, c2, hv2, hc2, hC2⟩ := Kd.R_reads HR2.out
  have hbs := Kd.R_base HR2.out
  refine ⟨v1, rfl, ?_, hbs, ?_, hk⟩
  · refine IsL.keeps (w := w2) (S := fun k => k = g) (d := Kd.int .u8) (fun x cs h => h) ⟨A2, c2, hv2, hc2, hC2⟩ ((Keeps.refl (fun k => k = g) w2).set (p := ⟨g, 0, none⟩) (Or.inl rfl) _) (fun k hk h => ?_)
    have := hbs k hk
    omega
  · refine Rd.set (w := w2) HG.out (v' := .slice A1 (bs.length - n) (c - n)) (bs' := bs.drop n) ?_ HAB.out (by rw [hdl]; omega) ((blk_set HG.out _ _).trans rfl) ((Keeps.refl (fun k => k = g) w2).set (p := ⟨g, 0, none⟩) (Or.inl rfl) _)
    exact ⟨A1, c - n, by rw [hdl], by rw [hdl]; omega, Kd.C_below HCD.out HB2.out⟩

theorem raw_calls {w : World} {g : Nat} {bs : List Int} {e : Int} (h : Rd w g bs e) (n : Int) : Calls Tryd.prog 37 #[.pointer (some ⟨g, 0, none⟩), .int .i64 n] w (RawPost w g (rawB bs e n) (rawE bs e n) (rawO bs e n)) := by
  unfold rawB rawE rawO
  by_cases he : e = 0
  · subst he
    simp only [ne_eq, not_true_eq_false, if_false]
    by_cases h1 : n < 0
    · rw [if_pos h1, if_pos h1, if_pos h1]
      obtain ⟨v, k1, ⟨A, c, rfl, hc, hC⟩, k3⟩ := h.ex
      have h0 := (blk_cell k1 0).trans rfl
      have hee := (blk_cell k1 1).trans rfl
      have HS := Aside0.mk (spoil_calls h 2)
      have d1 : decide (n < 0) = true := decide_eq_true h1
      clear h k1 k3 hC
      go_enter Tryd.func37, Tryd.ntmps37
      go_wp2_with fail
      refine HS.out.mono ?_
      rintro en w1 ⟨⟨x, rfl⟩, hr, hk⟩
      replace hr : Rd w1 g [] 2 := by simpa using hr
      have HR := Aside0.mk hr
      have HK := Aside0.mk hk
      clear hr hk
      go_wp2_with fail
      go_ret
      exact ⟨_, rfl, IsL.nil _ _, (fun k hk => absurd (show (none : Option Nat) = some k from hk) (by simp)), HR.out, HK.out⟩
    · rw [if_neg h1, if_neg h1, if_neg h1]
      obtain ⟨m, rfl⟩ := Int.eq_ofNat_of_zero_le (by omega : 0 ≤ n)
      by_cases h2 : (bs.length : Int) < (m : Int)
      · rw [if_pos h2, if_pos h2, if_pos h2]
        obtain ⟨v, k1, ⟨A, c, rfl, hc, hC⟩, k3⟩ := h.ex
        have h0 := (blk_cell k1 0).trans rfl
        have hee := (blk_cell k1 1).trans rfl
        have HS := Aside0.mk (spoil_calls h 5)
        have d1 : decide ((m : Int) < 0) = false := decide_eq_false h1
        have d2 : decide ((bs.length : Int) < (m : Int)) = true := decide_eq_true h2
        have d3 : decide (bs.length < m) = true := decide_eq_true (by omega)
        have d4 : bs.length < m := by omega
        clear h k1 k3 hC
        go_enter Tryd.func37, Tryd.ntmps37
        go_wp2_with fail
        refine HS.out.mono ?_
        rintro en w1 ⟨⟨x, rfl⟩, hr, hk⟩
        replace hr : Rd w1 g [] 5 := by simpa using hr
        have HR := Aside0.mk hr
        have HK := Aside0.mk hk
        clear hr hk
        go_wp2_with fail
        go_ret
        exact ⟨_, rfl, IsL.nil _ _, (fun k hk => absurd (show (none : Option Nat) = some k from hk) (by simp)), HR.out, HK.out⟩
      · rw [if_neg h2, if_neg h2, if_neg h2, Int.toNat_natCast]
        exact raw_ok h (by omega)
  · have he' : ¬ ¬ (e ≠ 0) := fun h => h he
    rw [if_pos he, if_pos he, if_pos he]
    obtain ⟨v, k1, k2, k3⟩ := h.ex
    have hee := (blk_cell k1 1).trans rfl
    have e1 : (e != 0) = true := by simp [he]
    have HR := Aside0.mk h
    clear h k1 k2 k3
    go_enter Tryd.func37, Tryd.ntmps37
    go_wp2_with fail
    go_ret
    exact ⟨_, rfl, IsL.nil _ _, (fun k hk => absurd (show (none : Option Nat) = some k from hk) (by simp)), HR.out, Keeps.refl _ _⟩

theorem raw_nobody (n : Int) (w : World) : Calls Tryd.prog 37 #[.pointer none, .int .i64 n] w fun e w' => e = .returned (.slice none 0 0) ∧ w = w' := by
  go_enter Tryd.func37, Tryd.ntmps37
  go_wp2_with fail
  go_ret
  exact ⟨by simp, rfl⟩
end Go.Proofs.YtdekhhimjnockaaDoor.Word
/- A reader's Num. -/
namespace Go.Proofs.YtdekhhimjnockaaDoor.Word
open Go.RowKit Go.Proofs.YtdekhhimjnockaaDoorW.PrintWords Go.Proofs.YtdekhhimjnockaaDoorW.PrintLast Go.Proofs.YtdekhhimjnockaaDoorW.PrintMore
open Go.Proofs.YtdekhhimjnockaaDoor Go.Proofs.YtdekhhimjnockaaDoor.Vals
set_option linter.unusedVariables false
set_option linter.unusedSimpArgs false

def Byte (bs : List Int) : Prop := ∀ c ∈ bs, 0 ≤ c ∧ c ≤ 255
theorem Byte.take {bs : List Int} (h : Byte bs) (n : Nat) : Byte (bs.take n) := fun c hc => h c (List.mem_of_mem_take hc)
theorem Byte.drop {bs : List Int} (h : Byte bs) (n : Nat) : Byte (bs.drop n) := fun c hc => h c (List.mem_of_mem_drop hc)
theorem Byte.nil : Byte [] := fun c hc => by simp at hc
theorem Byte.rawO {bs : List Int} (h : Byte bs) (e n : Int) : Byte (Word.rawO bs e n) := by
  unfold Word.rawO
  repeat' split
  all_goals first | exact Byte.nil | exact h.take _
theorem Byte.rawB {bs : List Int} (h : Byte bs) (e n : Int) : Byte (Word.rawB bs e n) := by
  unfold Word.rawB
  repeat' split
  all_goals first | exact Byte.nil | exact h.drop _ | exact h
theorem rawO_len (bs : List Int) (e n : Int) : ((rawO bs e n).length : Int) ≤ n ∨ (rawO bs e n).length = 0 := by
  unfold rawO
  repeat' split
  all_goals simp
  omega

def num (l : List Int) : Int := l.foldl (fun a c => a * 256 + c) 0
theorem num_snoc (l : List Int) (c : Int) : num (l ++ [c]) = num l * 256 + c := by simp [num]
theorem num_lt (l : List Int) (hl : Byte l) : 0 ≤ num l ∧ num l < 256 ^ l.length := by
  suffices h : ∀ n, n ≤ l.length → 0 ≤ num (l.take n) ∧ num (l.take n) < 256 ^ n by
    have := h l.length (Nat.le_refl _)
    rwa [List.take_length] at this
  intro n
  induction n with
  | zero => intro _; simp [num]
  | succ n ih =>
    intro hn
    have h1 := ih (by omega)
    have hlt : n < l.length := by omega
    rw [List.take_succ_eq_append_getElem hlt, num_snoc]
    have hc := hl _ (List.getElem_mem hlt)
    rw [Int.pow_succ]
    omega

theorem rd_lt {l : List Int} {i : Nat} (h : i < l.length) : rd l (i : Int) = l[i] := by
  unfold rd
  rw [Int.toNat_natCast, List.getD_eq_getElem?_getD, List.getElem?_eq_getElem h]
  rfl

theorem or8 (x y : Nat) (hx : x < 72057594037927936) (hy : y < 256) : Go.bits .or .u64 ((x : Int) * 256) (y : Int) = (x : Int) * 256 + y := by
  have e : ((x : Int) * 256) = ((x * 256 : Nat) : Int) := by omega
  rw [e]
  have h : ∀ a : Nat, a < 18446744073709551616 → (BitVec.ofInt 64 (a : Int)).toNat = a := fun a ha => by
    rw [BitVec.ofInt_natCast, BitVec.toNat_ofNat]; exact Nat.mod_eq_of_lt (by omega)
  show IntKind.u64.wrap ((BitVec.ofInt 64 ((x * 256 : Nat) : Int) ||| BitVec.ofInt 64 (y : Int)).toNat : Int) = _
  rw [BitVec.toNat_or, h _ (by omega), h _ (by omega)]
  have e2 : x * 256 ||| y = x * 256 + y := by
    have := Nat.two_pow_add_eq_or_of_lt (i := 8) (b := y) (by omega) x
    rw [show x * 256 = 2 ^ 8 * x by omega]
    exact this.symm
  rw [e2]
  simp [IntKind.wrap, IntKind.signed, IntKind.bits]
  omega

set_option maxHeartbeats 1000000 in
theorem num_wide {w : World} {g : Nat} {bs : List Int} {e : Int} (h : Rd w g bs e) (hby : Byte bs) {n : Int} (hn : wide n) : Calls Tryd.prog 25 #[.pointer (some ⟨g, 0, none⟩), .int .i64 n] w fun en w' => en = .returned (.int .u64 (num (rawO bs e n))) ∧ Rd w' g (rawB bs e n) (rawE bs e n) ∧ Keeps (fun k => k = g) w w' := by
  have hl8 : (rawO bs e n).length ≤ 8 := by
    have := rawO_len bs e n
    unfold wide at hn
    omega
  have hbo := hby.rawO e n
  have HRAW := Aside0.mk (raw_calls h n)
  have hr := right_calls n w
  rw [decide_eq_true hn] at hr
  have HW := Aside0.mk hr
  clear hr h
  generalize rawO bs e n = out at *
  go_enter Tryd.func25, Tryd.ntmps25
  go_wp2_with fail
  refine HW.out.mono ?_
  rintro en w' ⟨rfl, rfl⟩
  go_wp2_with fail
  refine HRAW.out.mono ?_
  rintro en w1 ⟨v, rfl, hI, hfar, hrd, hk⟩
  obtain ⟨A, c, rfl, hc, hC⟩ := hI
  have HC := Aside0.mk hC
  have HR := Aside0.mk hrd
  have HK := Aside0.mk hk
  clear hC hrd hk hfar
  go_wp2_with fail
  go_loopg [5, 15] (out.length + 1) (fun kq v5 v15 w' => ∃ i : Nat, v15 = .int .i64 (i : Int) ∧ v5 = .int .u64 (num (out.take i)) ∧ Aside0 (kq = out.length - i + 1 ∧ i ≤ out.length) ∧ w' = w1)
  case atStart => exact ⟨0, rfl, by simp [num], ⟨rfl, Nat.zero_le _⟩, rfl⟩
  case round =>
    obtain ⟨i, rfl, rfl, HI, rfl⟩ := hrel
    by_cases hi : i < out.length
    · have hi' : (i : Int) < (out.length : Int) := by omega
      have d1 : decide ((i : Int) < (out.length : Int)) = true := decide_eq_true hi'
      obtain ⟨ad, rfl, hcell⟩ := Kd.at_int HC.out (i : Int) (by omega) hi'
      rw [Int.toNat_natCast] at hcell
      have hgi := hbo _ (List.getElem_mem hi)
      have hrd : rd out (i : Int) = out[i] := rd_lt hi
      rw [hrd] at hcell
      obtain ⟨y, hy⟩ := Int.eq_ofNat_of_zero_le hgi.1
      rw [hy] at hcell
      have hnl := num_lt (out.take i) (hbo.take i)
      obtain ⟨x, hx⟩ := Int.eq_ofNat_of_zero_le hnl.1
      have hx56 : x < 72057594037927936 := by
        have h2 := hnl.2
        rw [hx, List.length_take, Nat.min_eq_left (Nat.le_of_lt hi)] at h2
        have h3 : (256 : Nat) ^ i ≤ 256 ^ 7 := Nat.pow_le_pow_right (by decide) (by omega)
        have h4 : ((256 : Int) ^ i) = ((256 ^ i : Nat) : Int) := by rw [Int.natCast_pow]; rfl
        rw [h4] at h2
        have h5 : x < 256 ^ i := Int.ofNat_lt.1 h2
        have h6 : (256 : Nat) ^ 7 = 72057594037927936 := by decide
        omega
      have hy8 : y < 256 := by
        have h2 := hgi.2
        rw [hy] at h2
        have h3 : y ≤ 255 := Int.ofNat_le.1 h2
        omega
      have hor := or8 x y hx56 hy8
      have hnext : num (out.take (i + 1)) = (x : Int) * 256 + (y : Int) := by
        rw [List.take_succ_eq_append_getElem hi, num_snoc, hx, hy]
      rw [hx]
      have HN := Aside0.mk hnext
      clear hnext hx hy hrd hgi hnl
      go_wp2_with fail
      go_roundg (out.length - (i + 1) + 1)
      case measure => have := HI.out; omega
      case rel => exact ⟨i + 1, by simp, by rw [HN.out], ⟨rfl, by omega⟩, rfl⟩
    · have d1 : decide ((i : Int) < (out.length : Int)) = false := decide_eq_false (by omega)
      have hil : i = out.length := by have := HI.out; omega
      go_wp2_with fail
      go_ret
      subst hil
      rw [List.take_length]
      exact ⟨rfl, HR.out, HK.out⟩

theorem rawO_neg (bs : List Int) (e : Int) : rawO bs e (-1) = [] := by
  unfold rawO
  split
  · rfl
  · rw [if_pos (by omega)]

set_option maxHeartbeats 1000000 in
theorem num_not {w : World} {g : Nat} {bs : List Int} {e : Int} (h : Rd w g bs e) {n : Int} (hn : ¬ wide n) : Calls Tryd.prog 25 #[.pointer (some ⟨g, 0, none⟩), .int .i64 n] w fun en w' => en = .returned (.int .u64 0) ∧ Rd w' g (rawB bs e (-1)) (rawE bs e (-1)) ∧ Keeps (fun k => k = g) w w' := by
  have hraw := raw_calls h (-1)
  rw [rawO_neg] at hraw
  have HRAW := Aside0.mk hraw
  have hr := right_calls n w
  rw [decide_eq_false hn] at hr
  have HW := Aside0.mk hr
  clear hr h hraw
  go_enter Tryd.func25, Tryd.ntmps25
  go_wp2_with fail
  refine HW.out.mono ?_
  rintro en w' ⟨rfl, rfl⟩
  go_wp2_with fail
  refine HRAW.out.mono ?_
  rintro en w1 ⟨v, rfl, hI, hfar, hrd, hk⟩
  obtain ⟨A, c, hv, hc, hC⟩ := hI
  replace hv : v = .slice A 0 c := hv
  subst hv
  have HR := Aside0.mk hrd
  have HK := Aside0.mk hk
  clear hC hrd hk hfar hc
  go_wp2_with fail
  go_loopg [5, 15] 1 (fun kq v5 v15 w' => v5 = .int .u64 0 ∧ v15 = .int .i64 0 ∧ w' = w1)
  case atStart => exact ⟨rfl, rfl, rfl⟩
  case round =>
    obtain ⟨rfl, rfl, rfl⟩ := hrel
    go_wp2_with fail
    go_ret
    exact ⟨rfl, HR.out, HK.out⟩

set_option maxHeartbeats 1000000 in
theorem num_nobody (n : Int) (w : World) : Calls Tryd.prog 25 #[.pointer none, .int .i64 n] w fun en w' => en = .returned (.int .u64 0) ∧ w = w' := by
  have hr := right_calls n w
  by_cases hn : wide n
  · have HW := Aside0.mk (show Calls Tryd.prog 36 #[.int .i64 n] w fun e w' => e = .returned (.bool true) ∧ w = w' by rw [decide_eq_true hn] at hr; exact hr)
    clear hr
    go_enter Tryd.func25, Tryd.ntmps25
    go_wp2_with fail
    refine HW.out.mono ?_
    rintro en w' ⟨rfl, rfl⟩
    go_wp2_with fail
    refine (raw_nobody _ w).mono ?_
    rintro en w1 ⟨rfl, hw⟩
    subst hw
    go_wp2_with fail
    go_loopg [5, 15] 1 (fun kq v5 v15 w' => v5 = .int .u64 0 ∧ v15 = .int .i64 0 ∧ w' = w)
    case atStart => exact ⟨rfl, rfl, rfl⟩
    case round =>
      obtain ⟨rfl, rfl, rfl⟩ := hrel
      go_wp2_with fail
      go_ret
      exact ⟨rfl, rfl⟩
  · have HW := Aside0.mk (show Calls Tryd.prog 36 #[.int .i64 n] w fun e w' => e = .returned (.bool false) ∧ w = w' by rw [decide_eq_false hn] at hr; exact hr)
    clear hr
    go_enter Tryd.func25, Tryd.ntmps25
    go_wp2_with fail
    refine HW.out.mono ?_
    rintro en w' ⟨rfl, rfl⟩
    go_wp2_with fail
    refine (raw_nobody _ w).mono ?_
    rintro en w1 ⟨rfl, hw⟩
    subst hw
    go_wp2_with fail
    go_loopg [5, 15] 1 (fun kq v5 v15 w' => v5 = .int .u64 0 ∧ v15 = .int .i64 0 ∧ w' = w)
    case atStart => exact ⟨rfl, rfl, rfl⟩
    case round =>
      obtain ⟨rfl, rfl, rfl⟩ := hrel
      go_wp2_with fail
      go_ret
      exact ⟨rfl, rfl⟩
end Go.Proofs.YtdekhhimjnockaaDoor.Word
/- Numbers and their bytes, in plain lists: no memory. -/
namespace Go.Proofs.YtdekhhimjnockaaDoor.Word
set_option linter.unusedVariables false
def beN : Nat → Nat → List Nat
  | 0, _ => []
  | k + 1, v => (v / 2 ^ (8 * k) % 256) :: beN k v
theorem be_nat (k a : Nat) : be k (a : Int) = (beN k a).map Int.ofNat := by
  induction k with
  | zero => rfl
  | succ k ih =>
    simp only [be, beN, List.map_cons, ih]
    congr 1
theorem beN_lt (k a : Nat) : ∀ c ∈ beN k a, c < 256 := by
  induction k with
  | zero => intro c hc; simp [beN] at hc
  | succ k ih =>
    intro c hc
    simp only [beN, List.mem_cons] at hc
    rcases hc with rfl | hc
    · exact Nat.mod_lt _ (by decide)
    · exact ih c hc
theorem pow8 (k : Nat) : 2 ^ (8 * (k + 1)) = 2 ^ (8 * k) * 256 := by rw [show 8 * (k + 1) = 8 * k + 8 by omega, Nat.pow_add]
/-- Rows of bytes of one length stand as their numbers do. -/
theorem beN_lex (a b : Nat) : ∀ k, beN k a < beN k b ↔ a % 2 ^ (8 * k) < b % 2 ^ (8 * k)
  | 0 => by simp [beN, Nat.mod_one]
  | k + 1 => by
    have ih := beN_lex a b k
    simp only [beN, List.cons_lt_cons_iff, ih]
    rw [pow8, Nat.mod_mul, Nat.mod_mul]
    have hp : 0 < 2 ^ (8 * k) := Nat.pow_pos (by decide)
    have h1 := Nat.mod_lt a hp
    have h2 := Nat.mod_lt b hp
    generalize a / 2 ^ (8 * k) % 256 = x
    generalize b / 2 ^ (8 * k) % 256 = y
    generalize a % 2 ^ (8 * k) = p at *
    generalize b % 2 ^ (8 * k) = q at *
    generalize 2 ^ (8 * k) = m at *
    rcases Nat.lt_trichotomy x y with h | h | h
    · have h3 : m * x + m ≤ m * y := by rw [← Nat.mul_succ]; exact Nat.mul_le_mul_left m h
      constructor
      · intro _; omega
      · intro _; exact Or.inl h
    · subst h
      constructor
      · rintro (h | h)
        · omega
        · omega
      · intro h; exact Or.inr ⟨rfl, by omega⟩
    · have h3 : m * y + m ≤ m * x := by rw [← Nat.mul_succ]; exact Nat.mul_le_mul_left m h
      constructor
      · rintro (h' | h')
        · omega
        · omega
      · intro _; omega
theorem beN_inj (a b : Nat) : ∀ k, beN k a = beN k b ↔ a % 2 ^ (8 * k) = b % 2 ^ (8 * k)
  | 0 => by simp [beN, Nat.mod_one]
  | k + 1 => by
    have ih := beN_inj a b k
    simp only [beN, List.cons.injEq, ih]
    rw [pow8, Nat.mod_mul, Nat.mod_mul]
    have hp : 0 < 2 ^ (8 * k) := Nat.pow_pos (by decide)
    have h1 := Nat.mod_lt a hp
    have h2 := Nat.mod_lt b hp
    generalize a / 2 ^ (8 * k) % 256 = x
    generalize b / 2 ^ (8 * k) % 256 = y
    generalize a % 2 ^ (8 * k) = p at *
    generalize b % 2 ^ (8 * k) = q at *
    generalize 2 ^ (8 * k) = m at *
    constructor
    · rintro ⟨rfl, rfl⟩; rfl
    · intro h
      rcases Nat.lt_trichotomy x y with h' | h' | h'
      · have h3 : m * x + m ≤ m * y := by rw [← Nat.mul_succ]; exact Nat.mul_le_mul_left m h'
        omega
      · subst h'; exact ⟨rfl, by omega⟩
      · have h3 : m * y + m ≤ m * x := by rw [← Nat.mul_succ]; exact Nat.mul_le_mul_left m h'
        omega
theorem num_from (l : List Int) (x : Int) : l.foldl (fun a c => a * 256 + c) x = x * 256 ^ l.length + num l := by
  induction l generalizing x with
  | nil => simp [num]
  | cons c t ih =>
    simp only [List.foldl_cons, num, List.length_cons]
    rw [ih, ih (0 * 256 + c), Int.pow_succ]
    have : (x * 256 + c) * 256 ^ t.length = x * (256 ^ t.length * 256) + c * 256 ^ t.length := by
      rw [Int.add_mul, Int.mul_assoc, Int.mul_comm 256 (256 ^ t.length)]
    rw [this]
    simp only [Int.zero_mul, Int.zero_add]
    omega
theorem be_len (k : Nat) (v : Int) : (be k v).length = k := by
  induction k with
  | zero => rfl
  | succ k ih => simp [be, ih]
theorem num_be (a : Nat) : ∀ k, num (be k (a : Int)) = ((a % 2 ^ (8 * k) : Nat) : Int)
  | 0 => by simp [be, num, Nat.mod_one]
  | k + 1 => by
    have ih := num_be a k
    simp only [be, num, List.foldl_cons]
    rw [num_from, be_len, ih, pow8, Nat.mod_mul]
    have e1 : (256 : Int) ^ k = ((2 ^ (8 * k) : Nat) : Int) := by
      rw [Nat.pow_mul, Int.natCast_pow]; rfl
    have e2 : ((a : Int) / 2 ^ (8 * k) % 256) = ((a / 2 ^ (8 * k) % 256 : Nat) : Int) := by
      simp only [Int.natCast_emod, Int.natCast_ediv, Int.natCast_pow]; rfl
    rw [e1, e2, Int.natCast_add, Int.natCast_mul, Int.zero_mul, Int.zero_add, Int.mul_comm, Int.add_comm]
end Go.Proofs.YtdekhhimjnockaaDoor.Word
/- The bytes of numbers as strings: how they stand. -/
namespace Go.Proofs.YtdekhhimjnockaaDoor.Word
open Go.RowKit
set_option linter.unusedVariables false
theorem u8_lt {a b : Nat} (ha : a < 256) (hb : b < 256) : (UInt8.ofNat a < UInt8.ofNat b) ↔ a < b := by
  rw [UInt8.lt_iff_toNat_lt, UInt8.toNat_ofNat', UInt8.toNat_ofNat']
  omega
theorem u8_eq {a b : Nat} (ha : a < 256) (hb : b < 256) : (UInt8.ofNat a = UInt8.ofNat b) ↔ a = b := by
  constructor
  · intro h
    have := congrArg UInt8.toNat h
    rw [UInt8.toNat_ofNat', UInt8.toNat_ofNat'] at this
    omega
  · rintro rfl; rfl
theorem less_map : ∀ {l m : List Nat}, (∀ c ∈ l, c < 256) → (∀ c ∈ m, c < 256) → Op.bytesLess (l.map UInt8.ofNat) (m.map UInt8.ofNat) = decide (l < m)
  | _, [], _, _ => by cases ‹List Nat› <;> simp [Op.bytesLess]
  | [], b :: m, _, _ => by simp [Op.bytesLess]
  | a :: l, b :: m, hl, hm => by
    have ha := hl a (by simp)
    have hb := hm b (by simp)
    have ih := less_map (l := l) (m := m) (fun c hc => hl c (List.mem_cons_of_mem _ hc)) (fun c hc => hm c (List.mem_cons_of_mem _ hc))
    simp only [List.map_cons, Op.bytesLess, ih, List.cons_lt_cons_iff]
    rw [Bool.eq_iff_iff]
    simp [u8_lt ha hb, u8_eq ha hb]
theorem eq_map : ∀ {l m : List Nat}, (∀ c ∈ l, c < 256) → (∀ c ∈ m, c < 256) → (l.map UInt8.ofNat = m.map UInt8.ofNat ↔ l = m)
  | [], [], _, _ => by simp
  | [], b :: m, _, _ => by simp
  | a :: l, [], _, _ => by simp
  | a :: l, b :: m, hl, hm => by
    have ha := hl a (by simp)
    have hb := hm b (by simp)
    have ih := eq_map (l := l) (m := m) (fun c hc => hl c (List.mem_cons_of_mem _ hc)) (fun c hc => hm c (List.mem_cons_of_mem _ hc))
    simp only [List.map_cons, List.cons.injEq, u8_eq ha hb, ih]
theorem be_str (n a : Nat) : (strOfNums (be n (a : Int))).toList = (beN n a).map UInt8.ofNat := by
  rw [Lib.strOfNums_toList, be_nat]
  simp [Lib.bytesOf]
end Go.Proofs.YtdekhhimjnockaaDoor.Word
/- The reference's bytes of a number are the number's bytes: no memory. -/
namespace Go.Proofs.YtdekhhimjnockaaDoor.Word
open Go.RowKit Go.Proofs.YtdekhhimjnockaaDoorW.PrintWords Go.Proofs.YtdekhhimjnockaaDoorW.PrintLast Go.Proofs.YtdekhhimjnockaaDoorW.PrintMore
set_option linter.unusedVariables false
set_option linter.unusedSimpArgs false
theorem bytes_l0 (n : Nat) (x : Int) (hn : n ≤ 8) (hx : 0 ≤ x) (hx2 : x < 18446744073709551616) : ∀ (k i : Nat), i ≤ n → n < k + i → Q.sluicegateref02_Bytes.l0 k (n : Int) (x / 2 ^ (8 * i)) (be i x) (i : Int) = some (be n x) := by
  intro k
  induction k with
  | zero => intro i h1 h2; omega
  | succ k ih =>
    intro i h1 h2
    simp only [Q.sluicegateref02_Bytes.l0]
    by_cases hi : i < n
    · have c1 : (i : Int) < (n : Int) := by omega
      have c2 : 1 + i < 140737488355328 := by omega
      have c3 : i + 1 ≤ n := hi
      have c4 : n < k + (i + 1) := by omega
      have hw : wrap64 ((i : Int) + 1) = ((i + 1 : Nat) : Int) := by
        simp [wrap64, IntKind.wrap, IntKind.signed, IntKind.bits]; omega
      have hp : (0 : Int) < 2 ^ (8 * i) := Int.pow_pos (by decide)
      have h0 : 0 ≤ x / 2 ^ (8 * i) := Int.ediv_nonneg hx (Int.le_of_lt hp)
      have hle : x / 2 ^ (8 * i) ≤ x := Int.ediv_le_self _ hx
      have hm' := hp
      have hm : Int.tmod (x / 2 ^ (8 * i)) 256 % 256 = x / 2 ^ (8 * i) % 256 := by
        rw [Int.tmod_eq_emod_of_nonneg h0]
        generalize x / 2 ^ (8 * i) = q
        clear hp hm' h0 hle
        omega
      have hd : IntKind.u64.wrap (Int.tdiv (x / 2 ^ (8 * i)) 256) = x / 2 ^ (8 * (i + 1)) := by
        rw [Int.tdiv_eq_ediv_of_nonneg h0, show 8 * (i + 1) = 8 * i + 8 by omega, Int.pow_add, ← Int.ediv_ediv_of_nonneg (Int.le_of_lt hp)]
        generalize x / 2 ^ (8 * i) = q at *
        have hq : 0 ≤ q / 256 ∧ q / 256 < 18446744073709551616 := by omega
        rw [show (2 : Int) ^ 8 = 256 from rfl]
        generalize q / 256 = r at *
        simp [IntKind.wrap, IntKind.signed, IntKind.bits]
        omega
      rw [if_pos c1, hm, hd, hw]
      simp only [Option.bind_some, List.length_singleton, be_len]
      rw [if_pos (by simpa using c2)]
      have h := ih (i + 1) c3 c4
      rw [be.eq_2] at h
      exact h
    · rw [if_neg (by omega)]
      have : i = n := by omega
      subst this; rfl

theorem width_f (n : Int) : Q.sluicegateref02_Width.f n = some (decide (wide n)) := by
  unfold Q.sluicegateref02_Width.f
  by_cases h1 : n = 1
  · subst h1; rfl
  · by_cases h2 : n = 2
    · subst h2; rfl
    · by_cases h4 : n = 4
      · subst h4; rfl
      · by_cases h8 : n = 8
        · subst h8; rfl
        · simp [wide, h1, h2, h4, h8]
theorem bytes_wide (n : Nat) (x : Int) (hn : wide n) (hx : 0 ≤ x) (hx2 : x < 18446744073709551616) : Q.sluicegateref02_Bytes.f 9 (n : Int) x = some (be n x) := by
  have hn8 : n ≤ 8 := by unfold wide at hn; omega
  unfold Q.sluicegateref02_Bytes.f
  rw [width_f, decide_eq_true hn]
  have := bytes_l0 n x hn8 hx hx2 9 0 (by omega) (by omega)
  simpa [be] using this
theorem bytes_not (n : Int) (x : Int) (hn : ¬ wide n) : Q.sluicegateref02_Bytes.f 9 n x = some [] := by
  unfold Q.sluicegateref02_Bytes.f
  rw [width_f, decide_eq_false hn]
  rfl
end Go.Proofs.YtdekhhimjnockaaDoor.Word
/- Bytes put behind bytes. -/
namespace Go.Proofs.YtdekhhimjnockaaDoor.Word
open Go.RowKit Go.Proofs.YtdekhhimjnockaaDoorW.PrintWords Go.Proofs.YtdekhhimjnockaaDoorW.PrintLast Go.Proofs.YtdekhhimjnockaaDoorW.PrintMore
open Go.Proofs.YtdekhhimjnockaaDoor Go.Proofs.YtdekhhimjnockaaDoor.Vals
set_option linter.unusedVariables false
set_option linter.unusedSimpArgs false

/-- The bytes of a number of any width: none of a width that is not right. -/
def anyBe (n x : Int) : List Int := if wide n then be n.toNat x else []
theorem anyBe_len (n x : Int) : (anyBe n x).length ≤ 8 := by
  unfold anyBe
  split
  · rename_i h
    rw [be_len]
    unfold wide at h; omega
  · simp
theorem rbytes_calls (n x : Int) (hx : 0 ≤ x) (hx2 : x < 18446744073709551616) (w : World) : Calls Tryd.prog 30 #[.int .i64 n, .int .u64 x] w fun e w' => ∃ v, e = .returned v ∧ Bys (anyBe n x) v w' ∧ Below w.heap.size w w' := by
  have hf : Q.sluicegateref02_Bytes.f 9 n x = some (anyBe n x) := by
    unfold anyBe
    by_cases h : wide n
    · rw [if_pos h]
      obtain ⟨m, rfl⟩ := Int.eq_ofNat_of_zero_le (show 0 ≤ n by unfold wide at h; omega)
      exact bytes_wide m x h hx hx2
    · rw [if_neg h]
      exact bytes_not n x h
  refine (Q.sluicegateref02_Bytes.calls 9 n x _ w hf).mono ?_
  rintro e w' ⟨v, rfl, hR, hb⟩
  obtain ⟨A, c, rfl, hc, hC⟩ := Kd.R_reads hR
  exact ⟨_, rfl, IsL.mk hc hC, hb⟩
theorem rwidth_calls (n : Int) (w : World) : Calls Tryd.prog 41 #[.int .i64 n] w fun e w' => e = .returned (.bool (decide (wide n))) ∧ Below w.heap.size w w' := by
  refine (Q.sluicegateref02_Width.calls n _ w (width_f n)).mono ?_
  rintro e w' ⟨rfl, hd⟩
  obtain ⟨k, rfl⟩ := hd.out
  exact ⟨rfl, pw_below_drewN (Below.refl _ _) k⟩
theorem put_any {w : World} {v : Value} {bs : List Int} (h : Bys bs v w) (hl : bs.length ≤ 140737488351232) {n x : Int} (hx : 0 ≤ x) (hx2 : x < 18446744073709551616) : Calls Tryd.prog 28 #[v, .int .i64 n, .int .u64 x] w fun e w' => ∃ v', e = .returned v' ∧ Bys (bs ++ anyBe n x) v' w' ∧ Below w.heap.size w w' := by
  unfold anyBe
  by_cases hn : wide n
  · rw [if_pos hn]
    obtain ⟨m, rfl⟩ := Int.eq_ofNat_of_zero_le (show 0 ≤ n by unfold wide at hn; omega)
    refine (put_wide h hl hn hx hx2).mono ?_
    rintro e w' ⟨v, rfl, hR, hb⟩
    obtain ⟨A, c, rfl, hc, hC⟩ := Kd.R_reads hR
    exact ⟨_, rfl, IsL.mk hc hC, hb⟩
  · rw [if_neg hn, List.append_nil]
    refine (put_not h hl hn).mono ?_
    rintro e w' ⟨v, rfl, hR, hb⟩
    obtain ⟨A, c, rfl, hc, hC⟩ := Kd.R_reads hR
    exact ⟨_, rfl, IsL.mk hc hC, hb⟩

theorem str_append (l m : List Int) : strOfNums (l ++ m) = strOfNums l ++ strOfNums m := by
  apply ByteArray.ext
  rw [ByteArray.data_append]
  apply Array.toList_inj.1
  simp [strOfNums]

theorem run_str {w : World} {v : Value} {l : List Int} (h : Bys l v w) : (convert 55 9 v).run Tryd.prog w = .ok (.string (strOfNums l)) w := by
  obtain ⟨A, c, rfl, hc, hC⟩ := h
  exact Kd.C_string (P := Tryd.prog) (src := 55) (dst := 9) (e := 5) (c := c) Tryd.underlying55 Tryd.underlying5 Tryd.underlying9 hC
end Go.Proofs.YtdekhhimjnockaaDoor.Word
/- Bytes stay while blocks turn that hold none. -/
namespace Go.Proofs.YtdekhhimjnockaaDoor.Word
open Go.RowKit Go.Proofs.YtdekhhimjnockaaDoorW.PrintWords Go.Proofs.YtdekhhimjnockaaDoorW.PrintLast Go.Proofs.YtdekhhimjnockaaDoorW.PrintMore
open Go.Proofs.YtdekhhimjnockaaDoor Go.Proofs.YtdekhhimjnockaaDoor.Vals
set_option linter.unusedVariables false
set_option linter.unusedSimpArgs false

theorem IsL.empty {A : Option Addr} {c : Nat} {w : World} (h : Bys [] (.slice A 0 c) w) (w' : World) : Bys [] (.slice A 0 c) w' :=
  ⟨A, c, rfl, Nat.zero_le _, rfl, Nat.zero_le _, fun h => absurd h (by simp)⟩
def NoByte (w : World) (k : Nat) : Prop := ∃ cs t fr, w.heap[k]? = some (.cells cs t fr) ∧ ∀ (i : Nat) (b : Int), cs[i]? ≠ some (.int .u8 b)
theorem NoByte.pair {w : World} {k n c : Nat} {A : Option Addr} {e : Int} {t : TypeId} {fr : Nat × Nat} (h : w.heap[k]? = some (.cells #[.slice A n c, .int .i64 e] t fr)) : NoByte w k :=
  ⟨_, _, _, h, fun i b => by
    match i with
    | 0 => simp
    | 1 => simp
    | i + 2 => simp⟩
/-- Bytes stay while blocks turn that hold none. -/
theorem Bys.far {w w' : World} {l : List Int} {v : Value} {Q : Nat → Prop} (h : Bys l v w) (hk : Keeps Q w w') (hq : ∀ k, Q k → NoByte w k) : Bys l v w' := by
  rcases l with _ | ⟨x, t⟩
  · obtain ⟨A, c, rfl, hc, hC⟩ := h
    exact IsL.empty (w := w) ⟨A, c, rfl, hc, hC⟩ w'
  · refine IsL.keeps (w := w) (w' := w') (S := Q) (d := Kd.int .u8) (fun x cs h => h) h hk (fun k hk hs => ?_)
    obtain ⟨A, c, rfl, hc, hl, hle, f⟩ := h
    obtain ⟨ad, rfl, f2⟩ := f (by simp)
    obtain ⟨cs, hcl, hK, hcell⟩ := f2 0 x rfl
    replace hK : cs = [.int .u8 x] := hK
    subst hK
    have h0 := hcell 0 _ rfl
    have hz : ad.add (0 * (Kd.int .u8).sz + 0) = ad := by simp [Addr.add]
    rw [hz] at h0
    obtain ⟨cs, t', fr, hb, hno⟩ := hq k hs
    simp only [Value.ownBlock, Option.some.injEq] at hk
    unfold World.cell? at h0
    rw [hk, hb] at h0
    cases hsp : ad.spot with
    | some s => simp [hsp] at h0
    | none =>
      simp [hsp] at h0
      exact hno _ _ h0
/-- A box of two cells is given new ones. -/
theorem box_put {w : World} {S : Nat} {t : TypeId} {x0 x1 : Value} (H : w.heap[S]? = some (.cells #[x0, x1] t (0, 0))) (y0 y1 : Value) :
    ((w.setCell ⟨S, 0, none⟩ y0).setCell ⟨S, 1, none⟩ y1).heap[S]? = some (.cells #[y0, y1] t (0, 0)) ∧ Keeps (fun k => k = S) w ((w.setCell ⟨S, 0, none⟩ y0).setCell ⟨S, 1, none⟩ y1) :=
  ⟨blk_put (blk_put H 0 _ rfl) 1 _ rfl, ((Keeps.refl (fun k => k = S) w).set (p := ⟨S, 0, none⟩) (Or.inl rfl) _).set (p := ⟨S, 1, none⟩) (Or.inl rfl) _⟩

theorem Rd.noByte {w : World} {g : Nat} {bs : List Int} {e : Int} (h : Rd w g bs e) : NoByte w g := by
  obtain ⟨v, h1, ⟨A, c, rfl, _, _⟩, _⟩ := h.ex
  exact NoByte.pair h1
theorem Rd.far {w w' : World} {g : Nat} {bs : List Int} {e : Int} {Q : Nat → Prop} (h : Rd w g bs e) (hk : Keeps Q w w') (hq : ∀ k, Q k → NoByte w k ∧ k ≠ g) : Rd w' g bs e := by
  obtain ⟨v, h1, h2, h3⟩ := h.ex
  exact ⟨⟨v, hk.blk h1 (fun h => (hq g h).2 rfl), Bys.far h2 hk (fun k h => (hq k h).1), h3⟩, h.le⟩
theorem two_blk (w : World) (a b : Obj) : ((w.alloc a).alloc b).heap[w.heap.size]? = some a ∧ ((w.alloc a).alloc b).heap[w.heap.size + 1]? = some b := by
  have h1 := blk_new (w.alloc a) b
  have h2 : (w.alloc a).heap.size = w.heap.size + 1 := Array.size_push _
  rw [h2] at h1
  exact ⟨blk_below (blk_new w a) (below_alloc (Below.refl _ _) b), h1⟩
theorem below2 (w : World) (a b : Obj) : Below w.heap.size w ((w.alloc a).alloc b) := below_alloc (below_alloc (Below.refl _ _) _) _

theorem info_u8 : ∃ i5, Tryd.prog.info? 5 = some i5 ∧ i5.size = 1 := by
  obtain ⟨i5, hi5⟩ : ∃ i5, Tryd.prog.info? 5 = some i5 := Option.isSome_iff_exists.1 (by rfl)
  refine ⟨i5, hi5, ?_⟩
  have : (Tryd.prog.info? 5).map (·.size) = some 1 := by kernel_rfl
  rw [hi5] at this
  simpa using this
/-- The front part and the back part of a slice of bytes. -/
theorem cut_bytes {w : World} {A : Option Addr} {c m : Nat} {bs : List Int} (hC : (Kd.int .u8).C w A bs.length bs) (hc : bs.length ≤ c) (hm : m ≤ bs.length) :
    (∀ W, (Instr.slice 55 (.slice A bs.length c) none (some (.int .i64 (m : Int))) none).run Tryd.prog W = .ok (.slice A m c) W) ∧ Bys (bs.take m) (.slice A m c) w ∧
    ∃ A1, (∀ W, (Instr.slice 55 (.slice A bs.length c) (some (.int .i64 (m : Int))) none none).run Tryd.prog W = .ok (.slice A1 (bs.length - m) (c - m)) W) ∧ Bys (bs.drop m) (.slice A1 (bs.length - m) (c - m)) w := by
  obtain ⟨i5, hi5, hz5⟩ := info_u8
  have hct := fun W => cut_take (P := Tryd.prog) 55 5 Tryd.underlying55 hi5 .i64 A bs.length c m hm hc W
  have hcd := fun W => cut_drop (P := Tryd.prog) 55 5 Tryd.underlying55 hi5 .i64 A bs.length c m hm hc W
  rw [hz5] at hcd
  have hCD := Kd.C_drop (m := m) hC hm hc
  rw [show (if c = m then A else A.map (·.add (m * (Kd.int .u8).sz))) = cutA A c m 1 from rfl] at hCD
  refine ⟨hct, ?_, _, hcd, ?_⟩
  · have hl : (bs.take m).length = m := by rw [List.length_take]; omega
    exact ⟨A, c, by rw [hl], by omega, Kd.C_take hC hm⟩
  · have hl : (bs.drop m).length = bs.length - m := List.length_drop
    exact ⟨_, c - m, by rw [hl], by omega, hCD⟩

end Go.Proofs.YtdekhhimjnockaaDoor.Word
