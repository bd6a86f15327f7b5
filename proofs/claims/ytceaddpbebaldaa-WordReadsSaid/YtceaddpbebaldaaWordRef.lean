/- The reference's readers, as contracts over lists. -/
import Derived.Test.YtceaddpbebaldaaWordBack
import Derived.RegionTactic
import Derived.ChangeAlike
namespace Go.Proofs.Ytceaddpbebaldaa.Word
open Go.RowKit Go.Proofs.YtceaddpbebaldaaW.PrintWords Go.Proofs.YtceaddpbebaldaaW.PrintLast Go.Proofs.YtceaddpbebaldaaW.PrintMore
open Go.Proofs.Ytceaddpbebaldaa Go.Proofs.Ytceaddpbebaldaa.Vals
set_option linter.unusedVariables false
set_option linter.unusedSimpArgs false

def spE (e r : Int) : Int := if e = 0 then r else e
def RPost (w : World) (bs : List Int) (e : Int) (en : Ending) (w' : World) : Prop := ∃ v, en = .returned (.agg #[v, .int .i64 e]) ∧ Bys bs v w' ∧ Below w.heap.size w w'
theorem rspoil_calls {w : World} {v : Value} {bs : List Int} (e r : Int) (h : Bys bs v w) : Calls Try.prog 28 #[.agg #[v, .int .i64 e], .int .i64 r] w (RPost w [] (spE e r)) := by
  obtain ⟨A, c, rfl, hc, hC⟩ := h
  refine (Q.sluicegateref02_spoil.calls A c bs e r [] (spE e r) w hC hc ?_).mono ?_
  · unfold Q.sluicegateref02_spoil.f spE
    by_cases h : e = 0
    · rw [if_pos h, if_pos h]
    · rw [if_neg h, if_neg h]
  · rintro en w' ⟨v0, rfl, hR, hb⟩
    obtain ⟨A', c', rfl, hc', hC'⟩ := Kd.R_reads hR
    exact ⟨_, rfl, IsL.mk hc' hC', hb⟩

def RawPost2 (w : World) (bs : List Int) (e : Int) (o : List Int) (en : Ending) (w' : World) : Prop := ∃ v v2, en = .returned (.tuple #[.agg #[v, .int .i64 e], v2]) ∧ Bys bs v w' ∧ Bys o v2 w' ∧ Below w.heap.size w w'

theorem rraw_err {w : World} {v : Value} {bs : List Int} {e : Int} (h : Bys bs v w) (he : e ≠ 0) (n : Int) : Calls Try.prog 17 #[.agg #[v, .int .i64 e], .int .i64 n] w (RawPost2 w bs e []) := by
  obtain ⟨A, c, rfl, hc, hC⟩ := h
  have HC := Aside0.mk hC
  have e1 : (e != 0) = true := by simp [he]
  clear hC
  go_enter Try.func17, Try.ntmps17
  go_wp2_with fail
  exact bodyPost_ret (v := .tuple #[.agg #[.slice A bs.length c, .int .i64 e], .slice none 0 0]) (by simp [results, Try.results17, go_sem]) rfl ⟨_, _, rfl, IsL.mk hc (Kd.C_below HC.out (below_alloc (below_alloc (Below.refl _ _) _) _)), IsL.nil _ _, below_alloc (below_alloc (Below.refl _ _) _) _⟩

theorem IsL.empty {A : Option Addr} {c : Nat} {w : World} (h : Bys [] (.slice A 0 c) w) (w' : World) : Bys [] (.slice A 0 c) w' :=
  ⟨A, c, rfl, Nat.zero_le _, rfl, Nat.zero_le _, fun h => absurd h (by simp)⟩
theorem two_blk (w : World) (a b : Obj) : ((w.alloc a).alloc b).heap[w.heap.size]? = some a ∧ ((w.alloc a).alloc b).heap[w.heap.size + 1]? = some b := by
  have h1 := blk_new (w.alloc a) b
  have h2 : (w.alloc a).heap.size = w.heap.size + 1 := Array.size_push _
  rw [h2] at h1
  exact ⟨blk_below (blk_new w a) (below_alloc (Below.refl _ _) b), h1⟩
theorem below2 (w : World) (a b : Obj) : Below w.heap.size w ((w.alloc a).alloc b) := below_alloc (below_alloc (Below.refl _ _) _) _

theorem rraw_spoil {w : World} {v : Value} {bs : List Int} (h : Bys bs v w) {n : Int} (hn : n < 0 ∨ (bs.length : Int) < n) : Calls Try.prog 17 #[.agg #[v, .int .i64 0], .int .i64 n] w (RawPost2 w [] (if n < 0 then 2 else 5) []) := by
  obtain ⟨A, c, rfl, hc, hC⟩ := h
  have HSP := Aside0.mk (fun w1 (hb : Below w.heap.size w w1) r => rspoil_calls (w := w1) 0 r (show Bys bs (.slice A bs.length c) w1 from IsL.mk hc (Kd.C_below hC hb)))
  clear hC hc
  by_cases h1 : n < 0
  · have d1 : decide (n < 0) = true := decide_eq_true h1
    rw [if_pos h1]
    clear hn
    go_enter Try.func17, Try.ntmps17
    go_wp2_with fail
    refine (HSP.out _ (below2 _ _ _) 2).mono ?_
    rintro en w3 ⟨v3, rfl, ⟨A3, c3, rfl, hc3, hC3⟩, hb⟩
    have H2 := Aside0.mk (blk_below (two_blk w _ _).2 hb)
    have HI := Aside0.mk (show Bys [] (.slice A3 0 c3) w3 from ⟨A3, c3, rfl, hc3, hC3⟩)
    have HB := Aside0.mk (below_step (below2 w _ _) hb)
    clear hb hc3 hC3
    rw [show spE 0 2 = 2 from rfl, List.length_nil]
    have k0 := (blk_cell H2.out 0).trans rfl
    have k1 := (blk_cell H2.out 1).trans rfl
    have f0 := blk_frozen H2.out 0
    have f1 := blk_frozen H2.out 1
    go_wp2_with fail
    have hk : Keeps (fun k => k = w.heap.size + 1) w3 ((w3.setCell ⟨w.heap.size + 1, 0, none⟩ (.slice A3 0 c3)).setCell ⟨w.heap.size + 1, 1, none⟩ (.int .i64 2)) := ((Keeps.refl (fun k => k = w.heap.size + 1) w3).set (p := ⟨w.heap.size + 1, 0, none⟩) (Or.inl rfl) _).set (p := ⟨w.heap.size + 1, 1, none⟩) (Or.inl rfl) _
    refine bodyPost_ret (results_ct rfl _ _ (w.heap.size + 1) 41 #[.slice A3 0 c3, .int .i64 2] (0, 0) _ rfl (blk_put (blk_put H2.out 0 _ rfl) 1 _ rfl) Try.underlying41 rfl (by kernel_rfl)) rfl ⟨_, _, rfl, ?_, IsL.nil _ _, ?_⟩
    · exact IsL.empty HI.out _
    · exact Keeps.below_then HB.out (Nat.le_refl _) hk (fun i hi => by have : i = w.heap.size + 1 := hi; omega)
  · obtain ⟨m, rfl⟩ := Int.eq_ofNat_of_zero_le (by omega : 0 ≤ n)
    have h2 : (bs.length : Int) < (m : Int) := hn.resolve_left h1
    have d1 : decide ((m : Int) < 0) = false := decide_eq_false h1
    have d2 : decide ((bs.length : Int) < (m : Int)) = true := decide_eq_true h2
    have d3 : decide (bs.length < m) = true := decide_eq_true (by omega)
    have d4 : bs.length < m := by omega
    rw [if_neg h1]
    clear hn
    go_enter Try.func17, Try.ntmps17
    go_wp2_with fail
    refine (HSP.out _ (below2 _ _ _) 5).mono ?_
    rintro en w3 ⟨v3, rfl, ⟨A3, c3, rfl, hc3, hC3⟩, hb⟩
    have H2 := Aside0.mk (blk_below (two_blk w _ _).2 hb)
    have HI := Aside0.mk (show Bys [] (.slice A3 0 c3) w3 from ⟨A3, c3, rfl, hc3, hC3⟩)
    have HB := Aside0.mk (below_step (below2 w _ _) hb)
    clear hb hc3 hC3
    rw [show spE 0 5 = 5 from rfl, List.length_nil]
    have k0 := (blk_cell H2.out 0).trans rfl
    have k1 := (blk_cell H2.out 1).trans rfl
    have f0 := blk_frozen H2.out 0
    have f1 := blk_frozen H2.out 1
    go_wp2_with fail
    have hk : Keeps (fun k => k = w.heap.size + 1) w3 ((w3.setCell ⟨w.heap.size + 1, 0, none⟩ (.slice A3 0 c3)).setCell ⟨w.heap.size + 1, 1, none⟩ (.int .i64 5)) := ((Keeps.refl (fun k => k = w.heap.size + 1) w3).set (p := ⟨w.heap.size + 1, 0, none⟩) (Or.inl rfl) _).set (p := ⟨w.heap.size + 1, 1, none⟩) (Or.inl rfl) _
    refine bodyPost_ret (results_ct rfl _ _ (w.heap.size + 1) 41 #[.slice A3 0 c3, .int .i64 5] (0, 0) _ rfl (blk_put (blk_put H2.out 0 _ rfl) 1 _ rfl) Try.underlying41 rfl (by kernel_rfl)) rfl ⟨_, _, rfl, ?_, IsL.nil _ _, ?_⟩
    · exact IsL.empty HI.out _
    · exact Keeps.below_then HB.out (Nat.le_refl _) hk (fun i hi => by have : i = w.heap.size + 1 := hi; omega)

theorem info_u8 : ∃ i5, Try.prog.info? 5 = some i5 ∧ i5.size = 1 := by
  obtain ⟨i5, hi5⟩ : ∃ i5, Try.prog.info? 5 = some i5 := Option.isSome_iff_exists.1 (by rfl)
  refine ⟨i5, hi5, ?_⟩
  have : (Try.prog.info? 5).map (·.size) = some 1 := by kernel_rfl
  rw [hi5] at this
  simpa using this
/-- The front part and the back part of a slice of bytes. -/
theorem cut_bytes {w : World} {A : Option Addr} {c m : Nat} {bs : List Int} (hC : (Kd.int .u8).C w A bs.length bs) (hc : bs.length ≤ c) (hm : m ≤ bs.length) :
    (∀ W, (Instr.slice 22 (.slice A bs.length c) none (some (.int .i64 (m : Int))) none).run Try.prog W = .ok (.slice A m c) W) ∧ Bys (bs.take m) (.slice A m c) w ∧
    ∃ A1, (∀ W, (Instr.slice 22 (.slice A bs.length c) (some (.int .i64 (m : Int))) none none).run Try.prog W = .ok (.slice A1 (bs.length - m) (c - m)) W) ∧ Bys (bs.drop m) (.slice A1 (bs.length - m) (c - m)) w := by
  obtain ⟨i5, hi5, hz5⟩ := info_u8
  have hct := fun W => cut_take (P := Try.prog) 22 5 Try.underlying22 hi5 .i64 A bs.length c m hm hc W
  have hcd := fun W => cut_drop (P := Try.prog) 22 5 Try.underlying22 hi5 .i64 A bs.length c m hm hc W
  rw [hz5] at hcd
  have hCD := Kd.C_drop (m := m) hC hm hc
  rw [show (if c = m then A else A.map (·.add (m * (Kd.int .u8).sz))) = cutA A c m 1 from rfl] at hCD
  refine ⟨hct, ?_, _, hcd, ?_⟩
  · have hl : (bs.take m).length = m := by rw [List.length_take]; omega
    exact ⟨A, c, by rw [hl], by omega, Kd.C_take hC hm⟩
  · have hl : (bs.drop m).length = bs.length - m := List.length_drop
    exact ⟨_, c - m, by rw [hl], by omega, hCD⟩

theorem rraw_ok {w : World} {v : Value} {bs : List Int} (h : Bys bs v w) {m : Nat} (hn : m ≤ bs.length) : Calls Try.prog 17 #[.agg #[v, .int .i64 0], .int .i64 (m : Int)] w (RawPost2 w (bs.drop m) 0 (bs.take m)) := by
  obtain ⟨A, c, rfl, hc, hC⟩ := h
  obtain ⟨hct, HT, A1, hcd, HD⟩ := cut_bytes hC hc hn
  have HT := Aside0.mk HT
  have HD := Aside0.mk HD
  have d1 : decide ((m : Int) < 0) = false := decide_eq_false (by omega)
  have d2 : decide ((bs.length : Int) < (m : Int)) = false := decide_eq_false (by omega)
  have d3 : decide (bs.length < m) = false := decide_eq_false (by omega)
  clear hC
  go_enter Try.func17, Try.ntmps17
  go_wp2_with fail
  exact bodyPost_ret (v := .tuple #[.agg #[.slice A1 (bs.length - m) (c - m), .int .i64 0], .slice A m c]) (by simp [results, Try.results17, go_sem]) rfl ⟨_, _, rfl, IsL.mono HD.out (below2 _ _ _), IsL.mono HT.out (below2 _ _ _), below2 _ _ _⟩

theorem rraw_calls {w : World} {v : Value} {bs : List Int} (e : Int) (h : Bys bs v w) (n : Int) : Calls Try.prog 17 #[.agg #[v, .int .i64 e], .int .i64 n] w (RawPost2 w (rawB bs e n) (rawE bs e n) (rawO bs e n)) := by
  unfold rawB rawE rawO
  by_cases he : e = 0
  · subst he
    simp only [ne_eq, not_true_eq_false, if_false]
    by_cases h1 : n < 0
    · have := rraw_spoil h (Or.inl h1)
      rw [if_pos h1] at this
      rw [if_pos h1, if_pos h1, if_pos h1]
      exact this
    · by_cases h2 : (bs.length : Int) < n
      · have := rraw_spoil h (Or.inr h2)
        rw [if_neg h1] at this
        rw [if_neg h1, if_neg h1, if_neg h1, if_pos h2, if_pos h2, if_pos h2]
        exact this
      · obtain ⟨m, rfl⟩ := Int.eq_ofNat_of_zero_le (by omega : 0 ≤ n)
        rw [if_neg h1, if_neg h1, if_neg h1, if_neg h2, if_neg h2, if_neg h2, Int.toNat_natCast]
        exact rraw_ok h (by omega)
  · rw [if_pos he, if_pos he, if_pos he]
    exact rraw_err h he n

def zerosB (l : List Int) : Bool := !l.any (fun c => c != 0)
theorem zeros_l0 (l : List Int) (hl : l.length < 1152921504606846976) : ∀ (k i : Nat), i ≤ l.length → l.length < k + i → Q.sluicegateref02_zeros.l0 k l (i : Int) = some (zerosB (l.drop i)) := by
  intro k
  induction k with
  | zero => intro i h1 h2; omega
  | succ k ih =>
    intro i h1 h2
    simp only [Q.sluicegateref02_zeros.l0]
    by_cases hi : i < l.length
    · rw [if_pos (by omega), if_pos (by omega), rd_lt hi, List.drop_eq_getElem_cons hi]
      have hw : wrap64 ((i : Int) + 1) = ((i + 1 : Nat) : Int) := by
        simp [wrap64, IntKind.wrap, IntKind.signed, IntKind.bits]
        omega
      by_cases e : l[i] = 0
      · rw [if_pos e, hw, ih (i + 1) (by omega) (by omega)]
        simp [zerosB, e]
      · rw [if_neg e]
        have : (l[i] != 0) = true := by simp [e]
        unfold zerosB
        rw [List.any_cons, this]
        rfl
    · rw [if_neg (by omega), List.drop_of_length_le (by omega)]
      rfl
theorem rzeros_calls {w : World} {v : Value} {bs : List Int} (h : Bys bs v w) (hl : bs.length ≤ 140737488351232) : Calls Try.prog 30 #[v] w fun e w' => e = .returned (.bool (zerosB bs)) ∧ Below w.heap.size w w' := by
  obtain ⟨A, c, rfl, hc, hC⟩ := h
  have hf : Q.sluicegateref02_zeros.f (bs.length + 1) bs = some (zerosB bs) := by
    unfold Q.sluicegateref02_zeros.f
    have := zeros_l0 bs (by omega) (bs.length + 1) 0 (by omega) (by omega)
    simpa using this
  refine (Q.sluicegateref02_zeros.calls (bs.length + 1) A c bs _ w hC hc hf).mono ?_
  rintro e w' ⟨rfl, hd⟩
  obtain ⟨k, rfl⟩ := hd.out
  exact ⟨rfl, pw_below_drewN (Below.refl _ _) k⟩
theorem rend_calls {w : World} {v : Value} {bs : List Int} (e : Int) (h : Bys bs v w) : Calls Try.prog 25 #[.agg #[v, .int .i64 e]] w fun en w' => en = .returned (.int .i64 (if e = 0 then (if bs = [] then 0 else 6) else e)) ∧ Below w.heap.size w w' := by
  obtain ⟨A, c, rfl, hc, hC⟩ := h
  refine Q.sluicegateref02_End.calls A c bs e _ w hC hc ?_
  unfold Q.sluicegateref02_End.f
  by_cases h : e = 0
  · rw [if_pos h, if_pos h]
    cases bs with
    | nil => simp [h]
    | cons b t => rw [if_pos (by simp), if_neg (by simp)]
  · rw [if_neg h, if_neg h]

/-- A block that holds no byte. -/
def NoByte (w : World) (k : Nat) : Prop := ∃ cs t fr, w.heap[k]? = some (.cells cs t fr) ∧ ∀ (i : Nat) (b : Int), cs[i]? ≠ some (.int .u8 b)
theorem NoByte.pair {w : World} {k n c : Nat} {A : Option Addr} {e : Int} {t : TypeId} {fr : Nat × Nat} (h : w.heap[k]? = some (.cells #[.slice A n c, .int .i64 e] t fr)) : NoByte w k :=
  ⟨_, _, _, h, fun i b => by
    match i with
    | 0 => simp
    | 1 => simp
    | i + 2 => simp⟩
/-- Bytes stay while blocks turn that hold none. -/
theorem Bys.far {w w' : World} {l : List Int} {v : Value} {Q : Nat → Prop} (h : Bys l v w) (hk : Keeps Q w w') (hq : ∀ k, Q k → NoByte w k) : Bys l v w' := by
  rcases l with _ | ⟨x, t⟩
  · obtain ⟨A, c, rfl, hc, hC⟩ := h
    exact IsL.empty (w := w) ⟨A, c, rfl, hc, hC⟩ w'
  · refine IsL.keeps (w := w) (w' := w') (S := Q) (d := Kd.int .u8) (fun x cs h => h) h hk (fun k hk hs => ?_)
    obtain ⟨A, c, rfl, hc, hl, hle, f⟩ := h
    obtain ⟨ad, rfl, f2⟩ := f (by simp)
    obtain ⟨cs, hcl, hK, hcell⟩ := f2 0 x rfl
    replace hK : cs = [.int .u8 x] := hK
    subst hK
    have h0 := hcell 0 _ rfl
    have hz : ad.add (0 * (Kd.int .u8).sz + 0) = ad := by simp [Addr.add]
    rw [hz] at h0
    obtain ⟨cs, t', fr, hb, hno⟩ := hq k hs
    simp only [Value.ownBlock, Option.some.injEq] at hk
    unfold World.cell? at h0
    rw [hk, hb] at h0
    cases hsp : ad.spot with
    | some s => simp [hsp] at h0
    | none =>
      simp [hsp] at h0
      exact hno _ _ h0
/-- A box of two cells is given new ones. -/
theorem box_put {w : World} {S : Nat} {t : TypeId} {x0 x1 : Value} (H : w.heap[S]? = some (.cells #[x0, x1] t (0, 0))) (y0 y1 : Value) :
    ((w.setCell ⟨S, 0, none⟩ y0).setCell ⟨S, 1, none⟩ y1).heap[S]? = some (.cells #[y0, y1] t (0, 0)) ∧ Keeps (fun k => k = S) w ((w.setCell ⟨S, 0, none⟩ y0).setCell ⟨S, 1, none⟩ y1) :=
  ⟨blk_put (blk_put H 0 _ rfl) 1 _ rfl, ((Keeps.refl (fun k => k = S) w).set (p := ⟨S, 0, none⟩) (Or.inl rfl) _).set (p := ⟨S, 1, none⟩) (Or.inl rfl) _⟩

theorem rzerosR_calls {w : World} {v : Value} {bs : List Int} (e : Int) (h : Bys bs v w) (hl : bs.length ≤ 140737488351232) (n : Int) : Calls Try.prog 21 #[.agg #[v, .int .i64 e], .int .i64 n] w
    (RPost w (if (rawO bs e n).any (fun c => c != 0) then [] else rawB bs e n) (if (rawO bs e n).any (fun c => c != 0) then spE (rawE bs e n) 3 else rawE bs e n)) := by
  have hol : (rawO bs e n).length ≤ 140737488351232 := by
    unfold rawO
    repeat' split
    all_goals first | (simp; done) | (simp; omega)
  obtain ⟨A, c, rfl, hc, hC⟩ := h
  have HRAW := Aside0.mk (fun w1 (hb : Below w.heap.size w w1) => rraw_calls (w := w1) e (show Bys bs (.slice A bs.length c) w1 from IsL.mk hc (Kd.C_below hC hb)) n)
  clear hC hc
  generalize rawO bs e n = out at *
  generalize rawB bs e n = bs' at *
  generalize rawE bs e n = e' at *
  obtain ⟨lb, hlb⟩ : ∃ lb : List Int, (if (out.any fun c => c != 0) = true then [] else bs') = lb := ⟨_, rfl⟩
  obtain ⟨eb, heb⟩ : ∃ eb : Int, (if (out.any fun c => c != 0) = true then spE e' 3 else e') = eb := ⟨_, rfl⟩
  rw [hlb, heb]
  have HLB := Aside0.mk hlb
  have HEB := Aside0.mk heb
  clear hlb heb
  go_enter Try.func21, Try.ntmps21
  go_wp2_with fail
  refine (HRAW.out _ (below2 _ _ _)).mono ?_
  rintro en w3 ⟨v3, v4, rfl, ⟨A3, c3, rfl, hc3, hC3⟩, ⟨A4, c4, rfl, hc4, hC4⟩, hb⟩
  have H1 := Aside0.mk (blk_below (two_blk w _ _).1 hb)
  have H2 := Aside0.mk (blk_below (two_blk w _ _).2 hb)
  have HI := Aside0.mk (show Bys bs' (.slice A3 bs'.length c3) w3 from ⟨A3, c3, rfl, hc3, hC3⟩)
  have HO := Aside0.mk (show Bys out (.slice A4 out.length c4) w3 from ⟨A4, c4, rfl, hc4, hC4⟩)
  have HB := Aside0.mk (below_step (below2 w _ _) hb)
  clear hb hc3 hC3 hc4 hC4 HRAW
  have k0 := (blk_cell H1.out 0).trans rfl
  have k1 := (blk_cell H1.out 1).trans rfl
  have f0 := blk_frozen H1.out 0
  have f1 := blk_frozen H1.out 1
  have HW := box_put H1.out (.slice A3 bs'.length c3) (.int .i64 e')
  have HN1 := Aside0.mk (NoByte.pair H1.out)
  go_wp2_with fail
  clear k0 k1 f0 f1
  generalize (w3.setCell ⟨w.heap.size, 0, none⟩ (.slice A3 bs'.length c3)).setCell ⟨w.heap.size, 1, none⟩ (.int .i64 e') = w4 at HW ⊢
  obtain ⟨h1, hk⟩ := HW
  have hi := Bys.far HI.out hk (fun k h => by subst h; exact HN1.out)
  have ho := Bys.far HO.out hk (fun k h => by subst h; exact HN1.out)
  have h2 := hk.blk H2.out (show ¬ (w.heap.size + 1 = w.heap.size) by omega)
  have hb := Keeps.below_then HB.out (Nat.le_refl _) hk (fun i hi => by have : i = w.heap.size := hi; omega)
  have H1 := Aside0.mk h1
  have H2 := Aside0.mk h2
  have HI := Aside0.mk hi
  have HB := Aside0.mk hb
  have hz := rzeros_calls ho hol
  clear h1 h2 hi ho hb hk
  by_cases hany : out.any (fun c => c != 0) = true
  · have hlb := HLB.out
    have heb := HEB.out
    rw [if_pos hany] at hlb heb
    have HLB := Aside0.mk hlb
    have HEB := Aside0.mk heb
    clear hlb heb
    rw [show zerosB out = false from by unfold zerosB; rw [hany]; rfl] at hz
    have HZ := Aside0.mk hz
    clear hz
    refine HZ.out.mono ?_
    rintro en w5 ⟨rfl, hb⟩
    have k0 := (blk_cell (blk_below H1.out hb) 0).trans rfl
    have k1 := (blk_cell (blk_below H1.out hb) 1).trans rfl
    have H2 := Aside0.mk (blk_below H2.out hb)
    have HSP := Aside0.mk (rspoil_calls e' 3 (HI.out.mono hb))
    have HB := Aside0.mk (below_step HB.out hb)
    clear hb
    go_wp2_with fail
    refine HSP.out.mono ?_
    rintro en w6 ⟨v6, rfl, ⟨A6, c6, rfl, hc6, hC6⟩, hb⟩
    have H2 := Aside0.mk (blk_below H2.out hb)
    have HI := Aside0.mk (show Bys [] (.slice A6 0 c6) w6 from ⟨A6, c6, rfl, hc6, hC6⟩)
    have HB := Aside0.mk (below_step HB.out hb)
    clear hb hc6 hC6 k0 k1
    rw [List.length_nil]
    have k0 := (blk_cell H2.out 0).trans rfl
    have k1 := (blk_cell H2.out 1).trans rfl
    have f0 := blk_frozen H2.out 0
    have f1 := blk_frozen H2.out 1
    have HW := box_put H2.out (.slice A6 0 c6) (.int .i64 (spE e' 3))
    go_wp2_with fail
    refine bodyPost_ret (results_cell_row rfl _ _ (w.heap.size + 1) 41 #[.slice A6 0 c6, .int .i64 (spE e' 3)] (0, 0) _ rfl HW.1 Try.underlying41 rfl (by kernel_rfl)) rfl ⟨_, by rw [← HEB.out], by rw [← HLB.out]; exact IsL.empty HI.out _, ?_⟩
    exact Keeps.below_then HB.out (Nat.le_refl _) HW.2 (fun i hi => by have : i = w.heap.size + 1 := hi; omega)
  · have hlb := HLB.out
    have heb := HEB.out
    rw [if_neg hany] at hlb heb
    have HLB := Aside0.mk hlb
    have HEB := Aside0.mk heb
    clear hlb heb
    rw [show zerosB out = true from by unfold zerosB; simp only [Bool.not_eq_true] at hany; rw [hany]; rfl] at hz
    have HZ := Aside0.mk hz
    clear hz
    refine HZ.out.mono ?_
    rintro en w5 ⟨rfl, hb⟩
    have h2 := blk_below H2.out hb
    have k0 := (blk_cell (blk_below H1.out hb) 0).trans rfl
    have k1 := (blk_cell (blk_below H1.out hb) 1).trans rfl
    have k2 := (blk_cell h2 0).trans rfl
    have k3 := (blk_cell h2 1).trans rfl
    have f2 := blk_frozen h2 0
    have f3 := blk_frozen h2 1
    have H2 := Aside0.mk h2
    have HI := Aside0.mk (HI.out.mono hb)
    have HB := Aside0.mk (below_step HB.out hb)
    clear hb h2
    have HW := box_put H2.out (.slice A3 bs'.length c3) (.int .i64 e')
    go_wp2_with fail
    refine bodyPost_ret (results_cell_row rfl _ _ (w.heap.size + 1) 41 #[.slice A3 bs'.length c3, .int .i64 e'] (0, 0) _ rfl HW.1 Try.underlying41 rfl (by kernel_rfl)) rfl ⟨_, by rw [← HEB.out], ?_, ?_⟩
    · rw [← HLB.out]
      exact Bys.far HI.out HW.2 (fun k h => by subst h; exact NoByte.pair H2.out)
    · exact Keeps.below_then HB.out (Nat.le_refl _) HW.2 (fun i hi => by have : i = w.heap.size + 1 := hi; omega)
end Go.Proofs.Ytceaddpbebaldaa.Word
