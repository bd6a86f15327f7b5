/- What writes: a writer in memory, and what its methods' calls come to. -/
import Derived.Test.YtfpdapdnmkadeaaWAll
import Derived.Test.YtfpdapdnmkadeaaRegC
import Derived.Orders
import Derived.RegionTactic
import Derived.ChangeAlike
import Derived.Laws.Concat
namespace Go.Proofs.Ytfpdapdnmkadeaa.Wire
open Go.RowKit Go.Proofs.YtfpdapdnmkadeaaW.PrintWords Go.Proofs.YtfpdapdnmkadeaaW.PrintLast Go.Proofs.YtfpdapdnmkadeaaW.PrintMore
open Go.Proofs.Ytfpdapdnmkadeaa Go.Proofs.Ytfpdapdnmkadeaa.Vals Go.Proofs.Ytfpdapdnmkadeaa.Word Go.Proofs.Ytfpdapdnmkadeaa.Q
set_option linter.unusedVariables false
set_option linter.unusedSimpArgs false

theorem below_low {w w' : World} {B : Nat} (h : Below w.heap.size w w') (hB : B ≤ w.heap.size) : Below B w w' := ⟨h.os, h.tape, h.output, h.size, fun k hk => h.block k (by omega)⟩
theorem below_trans {w w1 w' : World} {B : Nat} (h : Below B w w1) (k : Below B w1 w') : Below B w w' := ⟨k.os.trans h.os, k.tape.trans h.tape, k.output.trans h.output, Nat.le_trans h.size k.size, fun i hi => (k.block i hi).trans (h.block i hi)⟩
theorem below_setB {w w2 : World} {B : Nat} (h : Below B w w2) {p : Addr} (hp : B ≤ p.block) (u : Value) : Below B w (w2.setCell p u) :=
  ⟨h.os, h.tape, h.output, by simpa [World.setCell] using h.size, fun k hk => (Below.heap_setCell w2 p u k (by omega)).trans (h.block k hk)⟩
/-- A writer, its bytes in a row of its own; both lie from B on. -/
structure Wr (w : World) (B g : Nat) (v : Value) (bs : List Int) (bad : Bool) : Prop where
  ex : w.heap[g]? = some (.cells #[v, .bool bad] 55 (0, 0))
  row : Kd.R (Kd.int .u8) 5 w B (fun k => k ≠ g) v bs
  base : B ≤ g
theorem Wr.lt {w : World} {B g : Nat} {v : Value} {bs : List Int} {bad : Bool} (h : Wr w B g v bs bad) : g < w.heap.size := blk_lt h.ex
theorem Wr.low {w : World} {B g : Nat} {v : Value} {bs : List Int} {bad : Bool} (h : Wr w B g v bs bad) : B ≤ w.heap.size := Nat.le_of_lt (Nat.lt_of_le_of_lt h.base h.lt)
theorem Wr.below {w w' : World} {B g : Nat} {v : Value} {bs : List Int} {bad : Bool} (h : Wr w B g v bs bad) (hb : Below w.heap.size w w') : Wr w' B g v bs bad := ⟨blk_below h.ex hb, Kd.R_below h.row hb, h.base⟩
theorem Wr.put {w w1 : World} {B g : Nat} {v v1 : Value} {bs bs1 : List Int} {bad : Bool} (h : Wr w B g v bs bad) (hr : Kd.R (Kd.int .u8) 5 w1 B (fun k => k ≠ g) v1 bs1) (hg : w.grownBy w1 v.ownBlock) :
    w1.heap[g]? = some (.cells #[v, .bool bad] 55 (0, 0)) ∧ Wr (w1.setCell ⟨g, 0, none⟩ v1) B g v1 bs1 bad := by
  have h1 := blk_grown h.ex hg (fun e => h.row.1 g e.symm rfl)
  exact ⟨h1, blk_put h1 0 _ rfl, Kd.R_far (p := ⟨g, 0, none⟩) hr (fun k hk => hk) v1, h.base⟩
theorem Wr.spoil {w : World} {B g : Nat} {v : Value} {bs : List Int} {bad : Bool} (h : Wr w B g v bs bad) (b : Bool) : Wr (w.setCell ⟨g, 1, none⟩ (.bool b)) B g v bs b :=
  ⟨blk_put h.ex 1 _ rfl, Kd.R_far (p := ⟨g, 1, none⟩) h.row (fun k hk => hk) _, h.base⟩
/-- Blocks that hold no bytes, the writer's apart, stay. -/
def Fr (g : Nat) (w w' : World) : Prop := ∀ k cs t, w.heap[k]? = some (.cells cs t (0, 0)) → t ≠ 5 → k ≠ g → w'.heap[k]? = some (.cells cs t (0, 0))
theorem Fr.refl (g : Nat) (w : World) : Fr g w w := fun _ _ _ h _ _ => h
theorem Fr.trans {g : Nat} {w w1 w' : World} (h : Fr g w w1) (k : Fr g w1 w') : Fr g w w' := fun i cs t h1 h2 h3 => k i cs t (h i cs t h1 h2 h3) h2 h3
theorem Fr.below {w w' : World} (g : Nat) (h : Below w.heap.size w w') : Fr g w w' := fun i cs t h1 _ _ => blk_below h1 h
theorem Fr.grown {w w' : World} {B g : Nat} {v : Value} {bs : List Int} {bad : Bool} (h : Wr w B g v bs bad) (hg : w.grownBy w' v.ownBlock) : Fr g w w' := fun i cs t h1 h2 _ => blk_grown h1 hg (fun e => by
  obtain ⟨cs2, h3⟩ := Kd.R_typed h.row i e.symm
  rw [h1] at h3
  simp at h3
  exact h2 h3.2)
theorem Fr.set (g j : Nat) (w : World) (u : Value) : Fr g w (w.setCell ⟨g, j, none⟩ u) := fun i cs t h1 _ h3 => (Below.heap_setCell w ⟨g, j, none⟩ u i h3).trans h1
def WPost (w : World) (B g : Nat) (bs : List Int) (bad : Bool) (e : Ending) (w' : World) : Prop := (∃ u, e = .returned u) ∧ (∃ v, Wr w' B g v bs bad) ∧ Below B w w' ∧ Fr g w w'
theorem reads_u8 {w : World} {A : Option Addr} {n c : Nat} {l : List Int} (h : Kd.C (Kd.int .u8) w A n l) : ReadsRow ((Kd.int .u8).K w) (Kd.int .u8).sz w A n l := h

set_option maxHeartbeats 4000000 in
theorem num_calls {w : World} {B g : Nat} {v : Value} {bs : List Int} {bad : Bool} (h : Wr w B g v bs bad) (hl : bs.length ≤ 1099511627776) {n : Nat} {x : Int} (hn : wide n) (hx : 0 ≤ x ∧ x < 18446744073709551616) :
    Calls Try.prog 22 #[.pointer (some ⟨g, 0, none⟩), .int .i64 (n : Int), .int .u64 x] w (WPost w B g (bs ++ be n x) bad) := by
  have hn8 : n ≤ 8 := by unfold wide at hn; omega
  have HWR0 := Aside0.mk (h.below (pw_below_drewN (Below.refl _ _) 1))
  have IN := Aside0.mk (IsL.nil (Kd.int .u8) w.drew)
  have k0 := (blk_cell h.ex 0).trans rfl
  have HF0 := Aside0.mk (Fr.below g (w := w) (w' := w.drew) (pw_below_drewN (Below.refl _ _) 1))
  have HB0 := Aside0.mk (show Below B w w.drew from below_low (pw_below_drewN (Below.refl _ _) 1) h.low)
  go_enter Try.func22, Try.ntmps22
  refine wp_region_any (by kernel_rfl) ?_
  change wpAny _ _ _ _ _ _ _ (World.drew _)
  refine wpAny_take (i := 0) (v := ?_) rfl (by kernel_rfl) (by kernel_rfl) (by kernel_rfl) (fun _ _ _ h => h) (Or.inl ⟨by rfl, ?_⟩) ?_
  rotate_left 1
  · intro w; first | (go_simp; done) | (go_simp; with_reducible rfl)
  refine wpAny_take (i := 1) (v := ?_) rfl (by kernel_rfl) (by kernel_rfl) (by kernel_rfl) (fun _ _ _ h => h) (Or.inl ⟨by rfl, ?_⟩) ?_
  rotate_left 1
  · intro w; first | (go_simp; done) | (go_simp; with_reducible rfl)
  refine wpAny_take (i := 2) (v := ?_) rfl (by kernel_rfl) (by kernel_rfl) (by kernel_rfl) (fun _ _ _ h => h) (Or.inl ⟨by rfl, ?_⟩) ?_
  rotate_left 1
  · intro w; first | (go_simp; done) | (go_simp; with_reducible rfl)
  refine wpAny_take (i := 3) (v := ?_) rfl (by kernel_rfl) (by kernel_rfl) (by kernel_rfl) (fun _ _ _ h => h) (Or.inl ⟨by rfl, ?_⟩) ?_
  rotate_left 1
  · intro w; first | (go_simp; done) | (go_simp; with_reducible rfl)
  refine wpAny_take (i := 5) (v := ?_) rfl (by kernel_rfl) (by kernel_rfl) (by kernel_rfl) (fun _ _ _ h => h) (Or.inl ⟨by rfl, ?_⟩) ?_
  rotate_left 1
  · intro w; first | (go_simp; done) | (go_simp; with_reducible rfl)
  refine wpAny_take (i := 6) (v := ?_) rfl (by kernel_rfl) (by kernel_rfl) (by kernel_rfl) (fun _ _ _ h => h) (Or.inl ⟨by rfl, ?_⟩) ?_
  rotate_left 1
  · intro w; first | (go_simp; done) | (go_simp; with_reducible rfl)
  refine wpAny_ready (rs := [4, 7]) (by kernel_rfl) (by simp) ?_
  refine AllReady.cons rfl (fun K hK => ?_) ?_
  · skip
    go_simp
    refine hK _ _ ?_
    clear hK K
    refine wpAny_ready (rs := [7]) (by kernel_rfl) (by simp) ?_
    refine AllReady.cons rfl (fun K hK => ?_) AllReady.nil
    go_simp
    refine (put_wide IN.out (by simp) hn hx.1 hx.2).mono ?_
    rintro en w1 ⟨v1, rfl, hR1, hb1⟩
    rw [List.nil_append] at hR1
    obtain ⟨A1, c1, rfl, hc1, hC1⟩ := Kd.R_reads hR1
    have HC1 := Aside0.mk hC1
    have HWR := Aside0.mk (HWR0.out.below hb1)
    have HF1 := Aside0.mk (HF0.out.trans (Fr.below g hb1))
    have HB1 := Aside0.mk (below_trans HB0.out (below_low hb1 HWR0.out.low))
    have k1 := (blk_cell HWR.out.ex 0).trans rfl
    clear hR1 hb1 hc1 hC1
    refine hK _ _ ?_
    clear hK K
    refine wpAny_ready (rs := [8]) (by kernel_rfl) (by simp) ?_
    refine AllReady.cons rfl (fun K hK => ?_) AllReady.nil
    refine Kd.R_append_rows_step (Kd.int .u8) (w0 := w1) B (by rfl) (.tmp 10) (.tmp 13) 29 5 (.int .u8 0) 1 rfl Try.underlying29 info_byte rfl (by decide) (by decide) v bs (be n x) A1 _ _ (fun k => k ≠ g) (fun _ => False) rfl rfl HWR.out.row HC1.out (fun _ _ h => h) (fun _ h => h.elim) ?aF (Below.refl _ _) HWR.out.low ?aL ?_
    case aF => exact fun k hk => by have := HWR.out.lt; omega
    case aL => rw [be_length]; omega
    intro v2 w2 hR2 hb2 hg2 hat2
    have hwp := HWR.out.put hR2 hg2
    have HF2 := Aside0.mk (HF1.out.trans (Fr.grown HWR.out hg2))
    have HB2 := Aside0.mk (below_trans HB1.out hb2)
    have k2 := (blk_cell hwp.1 0).trans rfl
    have f2 := blk_frozen hwp.1 0
    obtain ⟨A2, c2, rfl, hc2, hC2⟩ := Kd.R_reads hR2
    have HW2 := Aside0.mk hwp.2
    generalize (bs ++ be n x).length = n2 at HW2 ⊢
    clear hwp hR2 hb2 hg2 hat2 hc2 hC2 k1
    refine hK _ _ ?_
    clear hK K
    refine wpAny_take (i := 9) (v := ?_) rfl (by kernel_rfl) (by kernel_rfl) (by kernel_rfl) (fun _ _ _ h => h) (Or.inl ⟨by rfl, ?_⟩) ?_
    rotate_left 1
    · intro w; first | (go_simp; done) | (go_simp; with_reducible rfl)
    refine wpAny_take (i := 10) (v := ?_) rfl (by kernel_rfl) (by kernel_rfl) (by kernel_rfl) (fun _ _ _ h => h) (Or.inl ⟨by rfl, ?_⟩) ?_
    rotate_left 1
    · intro w; first | (go_simp; done) | (go_simp; with_reducible rfl)
    refine wpAny_ready (rs := [11]) (by kernel_rfl) (by simp) ?_
    refine AllReady.cons rfl (fun K hK => ?_) AllReady.nil
    go_simp
    refine hK _ _ ?_
    clear hK K
    refine wpAny_done (by kernel_rfl) ?_ _
    try go_simp
    refine bodyPost_end (results_none rfl _ _ _) rfl ⟨⟨_, rfl⟩, ⟨_, HW2.out⟩, below_setB HB2.out h.base _, HF2.out.trans (Fr.set g 0 _ _)⟩
  refine AllReady.cons rfl (fun K hK => ?_) AllReady.nil
  go_simp
  refine (put_wide IN.out (by simp) hn hx.1 hx.2).mono ?_
  rintro en w1 ⟨v1, rfl, hR1, hb1⟩
  rw [List.nil_append] at hR1
  obtain ⟨A1, c1, rfl, hc1, hC1⟩ := Kd.R_reads hR1
  have HC1 := Aside0.mk hC1
  have HWR := Aside0.mk (HWR0.out.below hb1)
  have HF1 := Aside0.mk (HF0.out.trans (Fr.below g hb1))
  have HB1 := Aside0.mk (below_trans HB0.out (below_low hb1 HWR0.out.low))
  have k1 := (blk_cell HWR.out.ex 0).trans rfl
  clear hR1 hb1 hc1 hC1
  refine hK _ _ ?_
  clear hK K
  refine wpAny_ready (rs := [4]) (by kernel_rfl) (by simp) ?_
  refine AllReady.cons rfl (fun K hK => ?_) AllReady.nil
  go_simp
  refine hK _ _ ?_
  clear hK K
  refine wpAny_ready (rs := [8]) (by kernel_rfl) (by simp) ?_
  refine AllReady.cons rfl (fun K hK => ?_) AllReady.nil
  refine Kd.R_append_rows_step (Kd.int .u8) (w0 := w1) B (by rfl) (.tmp 10) (.tmp 13) 29 5 (.int .u8 0) 1 rfl Try.underlying29 info_byte rfl (by decide) (by decide) v bs (be n x) A1 _ _ (fun k => k ≠ g) (fun _ => False) rfl rfl HWR.out.row HC1.out (fun _ _ h => h) (fun _ h => h.elim) ?aF (Below.refl _ _) HWR.out.low ?aL ?_
  case aF => exact fun k hk => by have := HWR.out.lt; omega
  case aL => rw [be_length]; omega
  intro v2 w2 hR2 hb2 hg2 hat2
  have hwp := HWR.out.put hR2 hg2
  have HF2 := Aside0.mk (HF1.out.trans (Fr.grown HWR.out hg2))
  have HB2 := Aside0.mk (below_trans HB1.out hb2)
  have k2 := (blk_cell hwp.1 0).trans rfl
  have f2 := blk_frozen hwp.1 0
  obtain ⟨A2, c2, rfl, hc2, hC2⟩ := Kd.R_reads hR2
  have HW2 := Aside0.mk hwp.2
  generalize (bs ++ be n x).length = n2 at HW2 ⊢
  clear hwp hR2 hb2 hg2 hat2 hc2 hC2 k1
  refine hK _ _ ?_
  clear hK K
  refine wpAny_take (i := 9) (v := ?_) rfl (by kernel_rfl) (by kernel_rfl) (by kernel_rfl) (fun _ _ _ h => h) (Or.inl ⟨by rfl, ?_⟩) ?_
  rotate_left 1
  · intro w; first | (go_simp; done) | (go_simp; with_reducible rfl)
  refine wpAny_take (i := 10) (v := ?_) rfl (by kernel_rfl) (by kernel_rfl) (by kernel_rfl) (fun _ _ _ h => h) (Or.inl ⟨by rfl, ?_⟩) ?_
  rotate_left 1
  · intro w; first | (go_simp; done) | (go_simp; with_reducible rfl)
  refine wpAny_ready (rs := [11]) (by kernel_rfl) (by simp) ?_
  refine AllReady.cons rfl (fun K hK => ?_) AllReady.nil
  go_simp
  refine hK _ _ ?_
  clear hK K
  refine wpAny_done (by kernel_rfl) ?_ _
  try go_simp
  refine bodyPost_end (results_none rfl _ _ _) rfl ⟨⟨_, rfl⟩, ⟨_, HW2.out⟩, below_setB HB2.out h.base _, HF2.out.trans (Fr.set g 0 _ _)⟩

theorem Wr.grown {w w2 : World} {B g : Nat} {v v2 : Value} {bs l : List Int} {bad : Bool} (h : Wr w B g v bs bad) (ho : w2.ownsRow B 5 1 v2 l.length (nums .u8 l)) (hg : w.grownBy w2 v.ownBlock) :
    Kd.R (Kd.int .u8) 5 w2 B (fun k => k ≠ g) v2 l := Kd.R_of_own ho (fun k hk e => by
  obtain ⟨cs, hcs⟩ := own_typed ho k hk
  have h1 := blk_grown h.ex hg (fun e => h.row.1 g e.symm rfl)
  rw [e, h1] at hcs
  simp at hcs)
def tB (n : Nat) (most : Int) (s : ByteArray) (bs : List Int) : List Int := if most < (s.size : Int) then bs else bs ++ be n (s.size : Int) ++ bytesOf s
def tBad (most : Int) (s : ByteArray) (bad : Bool) : Bool := if most < (s.size : Int) then true else bad
set_option maxHeartbeats 4000000 in
theorem text_calls {w : World} {B g : Nat} {v : Value} {bs : List Int} {bad : Bool} (h : Wr w B g v bs bad) (hl : bs.length ≤ 1099511627776 - 8) {n : Nat} (hn : wide n) (most : Int) (hm : most ≤ 65535) (s : ByteArray) :
    Calls Try.prog 42 #[.pointer (some ⟨g, 0, none⟩), .int .i64 (n : Int), .int .i64 most, .string s] w (WPost w B g (tB n most s bs) (tBad most s bad)) := by
  unfold tB tBad
  by_cases hlt : most < (s.size : Int)
  · rw [if_pos hlt, if_pos hlt]
    have g1 : decide (most < (s.size : Int)) = true := decide_eq_true hlt
    have k1 := (blk_cell h.ex 1).trans rfl
    have f1 := blk_frozen h.ex 1
    have HW := Aside0.mk h
    clear h
    go_enter Try.func42, Try.ntmps42
    go_wp2_with fail
    exact bodyPost_end (results_none rfl _ _ _) rfl ⟨⟨_, rfl⟩, ⟨_, HW.out.spoil true⟩, below_setB (Below.refl _ _) HW.out.base _, Fr.set g 1 _ _⟩
  · rw [if_neg hlt, if_neg hlt]
    have g1 : decide (most < (s.size : Int)) = false := decide_eq_false hlt
    have hn8 : n ≤ 8 := by unfold wide at hn; omega
    have HNC := Aside0.mk (num_calls h (by omega) hn (x := (s.size : Int)) ⟨by omega, by omega⟩)
    have HSZ := Aside0.mk (show s.size ≤ 65535 by omega)
    have hw : IntKind.u64.wrap (s.size : Int) = (s.size : Int) := by simp [IntKind.wrap, IntKind.signed, IntKind.bits]; omega
    clear h
    go_enter Try.func42, Try.ntmps42
    go_wp2_with fail
    clear hw
    refine HNC.out.mono ?_
    rintro en w1 ⟨⟨u, rfl⟩, ⟨v1, hw1⟩, hb1, hf1⟩
    have HF1 := Aside0.mk hf1
    have HW1 := Aside0.mk hw1
    have HB1 := Aside0.mk hb1
    have k0 := (blk_cell hw1.ex 0).trans rfl
    clear hw1 hb1 HNC g1
    go_wp2_with (first | (at_builtin; refine print_append_str (w0 := w1) B rfl (.tmp 25) (.tmp 26) 29 9 5 rfl Try.underlying29 Try.underlying9 info_byte v1 (bs ++ be n (s.size : Int)) s rfl rfl (Kd.own_of_R HW1.out.row) (Below.refl _ _) HW1.out.low ?aL ?_; (case aL => have := HSZ.out; rw [List.length_append, be_length]; omega); intro v2 w2 ho2 hb2 hg2; have hr2 := Wr.grown HW1.out ho2 hg2; have hwp := HW1.out.put hr2 hg2; have HF2 := Aside0.mk (HF1.out.trans (Fr.grown HW1.out hg2)); have HB2 := Aside0.mk (below_trans HB1.out hb2); have k2 := (blk_cell hwp.1 0).trans rfl; have f2 := blk_frozen hwp.1 0; obtain ⟨A2, c2, rfl, hc2, hC2⟩ := Kd.R_reads hr2; have HW2 := Aside0.mk hwp.2; generalize (bs ++ be n (s.size : Int) ++ bytesOf s).length = n2 at HW2 k2 ⊢; clear hwp hr2 ho2 hb2 hg2 hc2 hC2 k0))
    exact bodyPost_end (results_none rfl _ _ _) rfl ⟨⟨_, rfl⟩, ⟨_, HW2.out⟩, below_setB HB2.out HW1.out.base _, HF2.out.trans (Fr.set g 0 _ _)⟩
end Go.Proofs.Ytfpdapdnmkadeaa.Wire
