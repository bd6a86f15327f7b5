/- A reader's Raw. -/
import Derived.Test.YtceaddpbebaldaaWord2
namespace Go.Proofs.Ytceaddpbebaldaa.Word
open Go.RowKit Go.Proofs.YtceaddpbebaldaaW.PrintWords Go.Proofs.YtceaddpbebaldaaW.PrintLast Go.Proofs.YtceaddpbebaldaaW.PrintMore
open Go.Proofs.Ytceaddpbebaldaa Go.Proofs.Ytceaddpbebaldaa.Vals
set_option linter.unusedVariables false
set_option linter.unusedSimpArgs false

/-- What Raw leaves of the bytes, of the error; what it answers. -/
def rawB (bs : List Int) (e n : Int) : List Int := if e ≠ 0 then bs else if n < 0 then [] else if (bs.length : Int) < n then [] else bs.drop n.toNat
def rawE (bs : List Int) (e n : Int) : Int := if e ≠ 0 then e else if n < 0 then 2 else if (bs.length : Int) < n then 5 else 0
def rawO (bs : List Int) (e n : Int) : List Int := if e ≠ 0 then [] else if n < 0 then [] else if (bs.length : Int) < n then [] else bs.take n.toNat

def RawPost (w : World) (g : Nat) (bs' : List Int) (e' : Int) (out : List Int) (en : Ending) (w' : World) : Prop :=
  ∃ v, en = .returned v ∧ Bys out v w' ∧ (∀ k, v.ownBlock = some k → w.heap.size ≤ k) ∧ Rd w' g bs' e' ∧ Keeps (fun k => k = g) w w'

theorem raw_ok {w : World} {g : Nat} {bs : List Int} (h : Rd w g bs 0) {n : Nat} (hn : n ≤ bs.length) : Calls Try.prog 18 #[.pointer (some ⟨g, 0, none⟩), .int .i64 (n : Int)] w (RawPost w g (bs.drop n) 0 (bs.take n)) := by
  have hle := h.le
  obtain ⟨v, h1, ⟨A, c, rfl, hc, hC⟩, h3⟩ := h.ex
  have h0 := (blk_cell h1 0).trans rfl
  have he := (blk_cell h1 1).trans rfl
  have hlt := h.lt
  obtain ⟨i5, hi5⟩ : ∃ i5, Try.prog.info? 5 = some i5 := Option.isSome_iff_exists.1 (by rfl)
  have hz5 : i5.size = 1 := by
    have : (Try.prog.info? 5).map (·.size) = some 1 := by kernel_rfl
    rw [hi5] at this
    simpa using this
  have hs := fun W => cut_drop (P := Try.prog) 22 5 Try.underlying22 hi5 .i64 A bs.length c n hn hc W
  rw [hz5] at hs
  have hCD := Kd.C_drop (m := n) hC hn hc
  rw [show (if c = n then A else A.map (·.add (n * (Kd.int .u8).sz))) = cutA A c n 1 from rfl] at hCD
  have hAB : ∀ k, (Value.slice (cutA A c n 1) (bs.length - n) (c - n)).ownBlock = some k → k ≠ g := by
    intro k hk
    apply h3 k
    unfold cutA at hk
    split at hk
    · cases A <;> exact hk
    · rcases A with _ | ad
      · cases hk
      · simp only [Option.map_some, Value.ownBlock] at hk ⊢
        rw [← hk]
        unfold Addr.add
        split <;> rfl
  have HAB := Aside0.mk hAB
  generalize cutA A c n 1 = A1 at hs hCD HAB
  have HC := Aside0.mk hC
  have HCD := Aside0.mk hCD
  have H1 := Aside0.mk h1
  have hdl : (bs.drop n).length = bs.length - n := List.length_drop
  have d1 : decide ((n : Int) < 0) = false := decide_eq_false (by omega)
  have d2 : decide ((bs.length : Int) < (n : Int)) = false := decide_eq_false (by omega)
  have hinfo : (Try.prog.info? 5).map (·.size) = some 1 := by kernel_rfl
  clear h h1 h3 hC hCD hi5 hz5 hAB
  go_enter Try.func18, Try.ntmps18
  go_wp2_with (guard_target = wpList _ _ _ (Oper.mk (some 32) _ _ _ _ _ :: _) _ _; refine Kd.R_make (Kd.int .u8) (w0 := w) w.heap.size 5 rfl (N := 32) rfl 22 (.tmp 31) (.tmp 31) rfl (n : Int) rfl rfl Try.underlying22 (.int .u8 0) 1 info_byte rfl (by decide) (by omega) (0 : Int) (ok := fun _ => True) (okp := fun _ => True) rfl (fun _ _ => trivial) trivial (by omega) (by simp; omega) (Below.refl _ _) (Nat.le_refl _) ?_; intro v1 w1 hR hb hg hat; have c0 := (hb.cell (p := ⟨g, 0, none⟩) hlt).trans h0; have HR := Aside0.mk hR; have HB := Aside0.mk hb; clear he hR hb hg hat; refine Aside0.out ?_)
  refine Aside0.mk ?_
  go_wp2_with (guard_target = wpList _ _ _ (Oper.mk (some 38) _ _ _ _ _ :: _) _ _; refine Aside0.out ?_)
  refine Aside0.mk ?_
  refine Kd.R_copy (enc := Value.int .u8) (h1 := fun _ => rfl) (0 : Int) (w0 := w) w.heap.size rfl (.tmp 33) (.tmp 37) 22 22 5 rfl Try.underlying22 hinfo v1 (List.replicate n 0) bs A bs.length c (fun _ => True) rfl rfl ?_ (Kd.C_below HC.out HB.out) HB.out HB.out.size ?_
  · have := HR.out
    rwa [Int.toNat_natCast] at this
  intro w2 hR hb hg
  have c0 := (hb.cell (p := ⟨g, 0, none⟩) hlt).trans h0
  have f0 := (hb.frozen (p := ⟨g, 0, none⟩) hlt).trans (blk_frozen H1.out 0)
  have ht : List.take (min bs.length (List.replicate n (0 : Int)).length) bs ++ List.drop (min bs.length (List.replicate n (0 : Int)).length) (List.replicate n 0) = bs.take n := by
    rw [List.length_replicate, Nat.min_eq_right hn, List.drop_of_length_le (by simp), List.append_nil]
  rw [ht] at hR
  have HR2 := Aside0.mk hR
  have HB2 := Aside0.mk hb
  have hb1 := (blk_below H1.out hb)
  have HG := Aside0.mk hb1
  clear hR hb hg HR HB h0 ht hb1
  go_wp2_with fail
  go_ret
  have hk : Keeps (fun k => k = g) w (w2.setCell ⟨g, 0, none⟩ (.slice A1 (bs.length - n) (c - n))) := (Keeps.of_below HB2.out (fun k => k = g)).set (p := ⟨g, 0, none⟩) (Or.inl rfl) _
  obtain ⟨A2, c2, hv2, hc2, hC2⟩ := Kd.R_reads HR2.out
  have hbs := Kd.R_base HR2.out
  refine ⟨v1, rfl, ?_, hbs, ?_, hk⟩
  · refine IsL.keeps (w := w2) (S := fun k => k = g) (d := Kd.int .u8) (fun x cs h => h) ⟨A2, c2, hv2, hc2, hC2⟩ ((Keeps.refl (fun k => k = g) w2).set (p := ⟨g, 0, none⟩) (Or.inl rfl) _) (fun k hk h => ?_)
    have := hbs k hk
    omega
  · refine Rd.set (w := w2) HG.out (v' := .slice A1 (bs.length - n) (c - n)) (bs' := bs.drop n) ?_ HAB.out (by rw [hdl]; omega) ((blk_set HG.out _ _).trans rfl) ((Keeps.refl (fun k => k = g) w2).set (p := ⟨g, 0, none⟩) (Or.inl rfl) _)
    exact ⟨A1, c - n, by rw [hdl], by rw [hdl]; omega, Kd.C_below HCD.out HB2.out⟩

theorem raw_calls {w : World} {g : Nat} {bs : List Int} {e : Int} (h : Rd w g bs e) (n : Int) : Calls Try.prog 18 #[.pointer (some ⟨g, 0, none⟩), .int .i64 n] w (RawPost w g (rawB bs e n) (rawE bs e n) (rawO bs e n)) := by
  unfold rawB rawE rawO
  by_cases he : e = 0
  · subst he
    simp only [ne_eq, not_true_eq_false, if_false]
    by_cases h1 : n < 0
    · rw [if_pos h1, if_pos h1, if_pos h1]
      obtain ⟨v, k1, ⟨A, c, rfl, hc, hC⟩, k3⟩ := h.ex
      have h0 := (blk_cell k1 0).trans rfl
      have hee := (blk_cell k1 1).trans rfl
      have HS := Aside0.mk (spoil_calls h 2)
      have d1 : decide (n < 0) = true := decide_eq_true h1
      clear h k1 k3 hC
      go_enter Try.func18, Try.ntmps18
      go_wp2_with fail
      refine HS.out.mono ?_
      rintro en w1 ⟨⟨x, rfl⟩, hr, hk⟩
      replace hr : Rd w1 g [] 2 := by simpa using hr
      have HR := Aside0.mk hr
      have HK := Aside0.mk hk
      clear hr hk
      go_wp2_with fail
      go_ret
      exact ⟨_, rfl, IsL.nil _ _, (fun k hk => absurd (show (none : Option Nat) = some k from hk) (by simp)), HR.out, HK.out⟩
    · rw [if_neg h1, if_neg h1, if_neg h1]
      obtain ⟨m, rfl⟩ := Int.eq_ofNat_of_zero_le (by omega : 0 ≤ n)
      by_cases h2 : (bs.length : Int) < (m : Int)
      · rw [if_pos h2, if_pos h2, if_pos h2]
        obtain ⟨v, k1, ⟨A, c, rfl, hc, hC⟩, k3⟩ := h.ex
        have h0 := (blk_cell k1 0).trans rfl
        have hee := (blk_cell k1 1).trans rfl
        have HS := Aside0.mk (spoil_calls h 5)
        have d1 : decide ((m : Int) < 0) = false := decide_eq_false h1
        have d2 : decide ((bs.length : Int) < (m : Int)) = true := decide_eq_true h2
        have d3 : decide (bs.length < m) = true := decide_eq_true (by omega)
        have d4 : bs.length < m := by omega
        clear h k1 k3 hC
        go_enter Try.func18, Try.ntmps18
        go_wp2_with fail
        refine HS.out.mono ?_
        rintro en w1 ⟨⟨x, rfl⟩, hr, hk⟩
        replace hr : Rd w1 g [] 5 := by simpa using hr
        have HR := Aside0.mk hr
        have HK := Aside0.mk hk
        clear hr hk
        go_wp2_with fail
        go_ret
        exact ⟨_, rfl, IsL.nil _ _, (fun k hk => absurd (show (none : Option Nat) = some k from hk) (by simp)), HR.out, HK.out⟩
      · rw [if_neg h2, if_neg h2, if_neg h2, Int.toNat_natCast]
        exact raw_ok h (by omega)
  · have he' : ¬ ¬ (e ≠ 0) := fun h => h he
    rw [if_pos he, if_pos he, if_pos he]
    obtain ⟨v, k1, k2, k3⟩ := h.ex
    have hee := (blk_cell k1 1).trans rfl
    have e1 : (e != 0) = true := by simp [he]
    have HR := Aside0.mk h
    clear h k1 k2 k3
    go_enter Try.func18, Try.ntmps18
    go_wp2_with fail
    go_ret
    exact ⟨_, rfl, IsL.nil _ _, (fun k hk => absurd (show (none : Option Nat) = some k from hk) (by simp)), HR.out, Keeps.refl _ _⟩

theorem raw_nobody (n : Int) (w : World) : Calls Try.prog 18 #[.pointer none, .int .i64 n] w fun e w' => e = .returned (.slice none 0 0) ∧ w = w' := by
  go_enter Try.func18, Try.ntmps18
  go_wp2_with fail
  go_ret
  exact ⟨by simp, rfl⟩
end Go.Proofs.Ytceaddpbebaldaa.Word
