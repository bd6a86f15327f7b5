/- Unlike, walked. -/
import Derived.Test.YtcdgenoakpmlbaaMixGet
import Derived.Test.YtcdgenoakpmlbaaMixMerges
import Derived.Deep.QuietTactic
import Derived.BigQuiet
namespace Go.Proofs.Ytcdgenoakpmlbaa.Mix
open Go.RowKit Go.Proofs.YtcdgenoakpmlbaaW.PrintWords Go.Proofs.YtcdgenoakpmlbaaW.PrintLast Go.Proofs.YtcdgenoakpmlbaaW.PrintMore
open Go.Proofs.Ytcdgenoakpmlbaa Go.Proofs.Ytcdgenoakpmlbaa.Vals Go.Proofs.Ytcdgenoakpmlbaa.Q Go.Proofs.Ytcdgenoakpmlbaa.U
set_option linter.unusedVariables false
set_option linter.unusedSimpArgs false

def UnPost (w : World) (r : List S32) (e : Ending) (w' : World) : Prop := ∃ v, e = .returned v ∧ k32.R 32 w' w.heap.size (fun _ => True) v r ∧ Below w.heap.size w w'
theorem drop_cons_no {P q : S32} {r : List S32} (h : ¬ cmp q.f0 P.f0 < 0) : (q :: r).dropWhile (before P.f0) = q :: r := by
  rw [List.dropWhile_cons, if_neg (by simp [before, h])]
theorem drop_cons_yes {P q : S32} {r : List S32} (h : cmp q.f0 P.f0 < 0) : (q :: r).dropWhile (before P.f0) = r.dropWhile (before P.f0) := by
  rw [List.dropWhile_cons, if_pos (by simp [before, h])]
set_option maxHeartbeats 4000000 in
theorem un_calls {w : World} {A B : Option Addr} {c d : Nat} {a b : List S32} (ha : k32.C w A a.length a) (hc : a.length ≤ c) (hb : k32.C w B b.length b) (hd : b.length ≤ d) (hl : a.length ≤ 1000000) (hl2 : b.length ≤ 1000000) :
    Calls Try.prog 15 #[.slice A a.length c, .slice B b.length d] w (UnPost w (unlikeL a b)) := by
  have HA := Aside0.mk ha
  have HL := Aside0.mk (And.intro hl hl2)
  have HB := Aside0.mk hb
  have HD := Aside0.mk hd
  clear ha hc hb hd hl hl2
  go_enter Try.func15, Try.ntmps15
  go_wp2_with fail
  go_loopg [1, 5, 10] a.length (fun kq v1 v5 v10 wx => ∃ (i : Nat) (bb : List S32) (B1 : Option Addr) (d1 : Nat) (out : List S32), v10 = .int .i64 (i : Int) ∧ v1 = .slice B1 bb.length d1 ∧ Aside0 (kq = a.length - i ∧ i ≤ a.length ∧ out.length ≤ i ∧ bb.length ≤ b.length) ∧ Aside0 (k32.C w B1 bb.length bb ∧ bb.length ≤ d1) ∧ Aside0 (Below w.heap.size w wx) ∧ Aside0 (k32.R 32 wx w.heap.size (fun _ => True) v5 out) ∧ Aside0 (out ++ unlikeL (a.drop i) bb = unlikeL a b))
  case atStart => exact ⟨0, b, B, d, [], rfl, rfl, ⟨rfl, Nat.zero_le _, Nat.le_refl _, Nat.le_refl _⟩, ⟨HB.out, HD.out⟩, ⟨Below.refl _ _⟩, ⟨Kd.R_nil _ _ _ _ _⟩, ⟨rfl⟩⟩
  case round =>
    clear HB HD
    obtain ⟨i, bb, B1, d1, out, rfl, rfl, HI, HC, HW, HO, HU⟩ := hrel
    have hal : ((a.length : Nat) : Int) ≤ 1000000 := by have := HL.out; omega
    by_cases hi : i < a.length
    · have t1 : decide (i < a.length) = true := decide_eq_true hi
      have g2 : (i : Int) < (a.length : Int) := by omega
      obtain ⟨ad, ep, p0, p1⟩ := pair_at (Kd.C_below HA.out HW.out) hi hi
      obtain ⟨P, hP⟩ : ∃ P, a[i] = P := ⟨_, rfl⟩
      rw [hP] at p0 p1
      have HU2 := Aside0.mk (show out ++ unlikeL (P :: a.drop (i + 1)) bb = unlikeL a b by rw [← HU.out, List.drop_eq_getElem_cons hi, hP])
      have HI2 := Aside0.mk hi
      cases ep
      clear hi hP HU
      go_wp2_with fail
      have hba := below_alloc (Below.refl wr.heap.size wr) (.cells #[.string P.f0, .string P.f1] 32)
      have HT := Aside0.mk (blk_new wr (.cells #[.string P.f0, .string P.f1] 32))
      have HW1 := Aside0.mk (below_step HW.out hba)
      have HO1 := Aside0.mk (Kd.R_below HO.out hba)
      clear hba p0 p1 HW HO
      generalize wr.alloc (.cells #[.string P.f0, .string P.f1] 32) = w1 at HT HW1 HO1 ⊢
      obtain ⟨T, hT⟩ : ∃ T, wr.heap.size = T := ⟨_, rfl⟩
      rw [hT] at HT ⊢
      clear hT
      go_loopg [1] bb.length (fun kq v1 wx => ∃ (b2 : List S32) (B2 : Option Addr) (d2 : Nat), v1 = .slice B2 b2.length d2 ∧ Aside0 (kq = b2.length ∧ b2.length ≤ bb.length) ∧ Aside0 (k32.C w B2 b2.length b2 ∧ b2.length ≤ d2) ∧ Aside0 (Below w1.heap.size w1 wx) ∧ Aside0 (b2.dropWhile (before P.f0) = bb.dropWhile (before P.f0)))
      case atStart => exact ⟨bb, B1, d1, rfl, ⟨rfl, Nat.le_refl _⟩, HC, ⟨Below.refl _ _⟩, ⟨rfl⟩⟩
      case round =>
        clear HC
        obtain ⟨b2, B2, d2, rfl, HJ, HC, HX, HD⟩ := hrel
        have hT2 := (HX.out.block T (blk_lt HT.out)).trans HT.out
        have t0 := (blk_cell hT2 0).trans rfl
        have t1 := (blk_cell hT2 1).trans rfl
        clear hT2
        cases b2 with
        | nil =>
          have e1 : decide ((0 : Int) < 0) = false := rfl
          have HE := Aside0.mk (show bb.dropWhile (before P.f0) = [] from HD.out.symm)
          have HRS := Aside0.mk (show [P] ++ unlikeL (a.drop (i + 1)) [] = unlikeL (P :: a.drop (i + 1)) bb by rw [show unlikeL (P :: a.drop (i + 1)) bb = (if headB (bb.dropWhile (before P.f0)) P = true then unlikeL (a.drop (i + 1)) (bb.dropWhile (before P.f0)) else P :: unlikeL (a.drop (i + 1)) (bb.dropWhile (before P.f0))) from rfl, HE.out]; rfl)
          go_wp2_with fail
          go_quiet ((go_at_call 24; exact Calls.quiet_of_same ((lex_calls _ _ _).mono (fun e w' h => ⟨h.1, h.2.symm⟩))))

          have HX3 := Aside0.mk (below_step HX.out (pw_below_drewN (Below.refl wr.heap.size wr) nq))
          generalize wr.drewN nq = w3 at HX3 ⊢
          have hT2 := (HX3.out.block T (blk_lt HT.out)).trans HT.out
          have t0 := (blk_cell hT2 0).trans rfl
          have t1 := (blk_cell hT2 1).trans rfl
          clear hT2

          go_wp2_with fail
          go_quiet (fail)
          have HX4 := Aside0.mk (below_step HX3.out (pw_below_drewN (Below.refl w3.heap.size w3) nq))
          generalize w3.drewN nq = w4 at HX4 ⊢
          have hT2 := (HX4.out.block T (blk_lt HT.out)).trans HT.out
          have t0 := (blk_cell hT2 0).trans rfl
          have t1 := (blk_cell hT2 1).trans rfl
          clear hT2
          have HW4 := Aside0.mk (below_step HW1.out HX4.out)
          have HO4 := Aside0.mk (Kd.R_below HO1.out HX4.out)

          have HLO := Aside0.mk (show (out.length + 1) * 32 ≤ 140737488355328 from by have := HI.out.2.2.1; have := HI2.out; have := HL.out.1; omega)
          go_wp2_with (at_builtin; refine Kd.R_append k32 (w0 := w) w.heap.size rfl (.tmp 39) (.tmp 41) 25 32 (.agg #[.string ⟨#[]⟩, .string ⟨#[]⟩]) 32 rfl Try.underlying25 info32' rfl (by decide) (by omega) u5 out P [.string P.f0, .string P.f1] (fun _ => True) (fun _ => False) rfl rfl ?aP (fun _ hk => hk.elim) (fun _ _ => trivial) HO4.out HW4.out HW4.out.size HLO.out ?_; (case aP => exact k32_mkM _ _ _ P); intro v1 w5 ho hb hg hat; have HW5 := Aside0.mk hb; have HO5 := Aside0.mk ho; clear ho hb hg hat HW4 HO4 t0 t1)
          go_roundg (a.length - (i + 1))
          case measure => have := HI.out; have := HI2.out; omega
          case rel => exact ⟨i + 1, [], B2, d2, out ++ [P], by go_num, rfl, ⟨rfl, HI2.out, by have := HI.out; rw [List.length_append, List.length_singleton]; omega, by have := HI.out; have := HJ.out.2; simp only [List.length_cons, List.length_nil] at this ⊢; omega⟩, HC, HW5, HO5, ⟨by rw [← HU2.out, List.append_assoc]; exact congrArg (out ++ ·) HRS.out⟩⟩
        | cons q r =>
          obtain ⟨bd, ep, b0, b1⟩ := pair_at (Kd.C_below HC.out.1 (below_step HW1.out HX.out)) (i := 0) (by simp) (by simp)
          rw [Nat.zero_mul, add_none] at b0 b1
          simp only [List.getElem_cons_zero] at b0 b1
          cases ep
          have e1 : decide (0 < r.length + 1) = true := decide_eq_true (by omega)
          have g5 : (0 : Int) < (r.length : Int) + 1 := by omega
          have g6 : (r.length : Int) ≤ 1000000 := by have := HJ.out.2; have := HI.out.2.2.2; have := HL.out.2; simp only [List.length_cons] at *; omega
          have HQ := Aside0.mk (World.block_lt_of_cell? _ _ b0)
          by_cases hlt : cmp q.f0 P.f0 < 0
          · have c1 : decide (cmp q.f0 P.f0 < 0) = true := decide_eq_true hlt
            have HD2 := Aside0.mk (show r.dropWhile (before P.f0) = bb.dropWhile (before P.f0) from by rw [← HD.out, drop_cons_yes hlt])
            clear hlt
            obtain ⟨i32, hi32⟩ : ∃ i5, Try.prog.info? 32 = some i5 := Option.isSome_iff_exists.1 (by rfl)
            have hz32 : i32.size = 2 := by
              have : (Try.prog.info? 32).map (·.size) = some 2 := by kernel_rfl
              rw [hi32] at this
              simpa using this
            have hdd : r.length + 1 ≤ d2 := by have := HC.out.2; simpa using this
            have hs := fun W => cut_drop (P := Try.prog) 25 32 Try.underlying25 hi32 .i64 (some bd) (r.length + 1) d2 1 (by omega) hdd W
            rw [hz32, show ((1 : Nat) : Int) = 1 from rfl, Nat.add_sub_cancel] at hs
            have hcd := Kd.C_drop (m := 1) HC.out.1 (by simp) (c := d2) (by simpa using hdd)
            have HC2 := Aside0.mk (show k32.C w (cutA (some bd) d2 1 2) r.length r ∧ r.length ≤ d2 - 1 from ⟨hcd, by omega⟩)
            clear hi32 hz32 hdd hcd
            generalize cutA (some bd) d2 1 2 = B3 at hs HC2
            go_wp2_with fail
            go_quiet ((go_at_call 24; exact Calls.quiet_of_same ((lex_calls _ _ _).mono (fun e w' h => ⟨h.1, h.2.symm⟩))))

            have HX3 := Aside0.mk (below_step HX.out (pw_below_drewN (Below.refl wr.heap.size wr) nq))
            have HX3b := Aside0.mk (pw_below_drewN (Below.refl wr.heap.size wr) nq)
            generalize wr.drewN nq = w3 at HX3 HX3b ⊢
            have hT2 := (HX3.out.block T (blk_lt HT.out)).trans HT.out
            have t0 := (blk_cell hT2 0).trans rfl
            have t1 := (blk_cell hT2 1).trans rfl
            clear hT2
            replace b0 := (World.cell?_of_block (HX3b.out.block _ HQ.out)).trans b0
            replace b1 := (World.cell?_of_block (w' := w3) (a := ⟨bd.block, bd.off + 1, none⟩) (HX3b.out.block _ HQ.out)).trans b1

            go_wp2_with fail
            go_roundg r.length
            case measure => have := HJ.out; simp only [List.length_cons] at this; omega
            case rel => exact ⟨r, B3, d2 - 1, rfl, ⟨rfl, by have := HJ.out.2; simp only [List.length_cons] at this; omega⟩, HC2, HX3, HD2⟩
          · have c1 : decide (cmp q.f0 P.f0 < 0) = false := decide_eq_false hlt
            have hd0 := drop_cons_no (r := r) hlt
            have HD2 := Aside0.mk (show bb.dropWhile (before P.f0) = q :: r from by rw [← HD.out, hd0])
            clear hlt hd0
            go_wp2_with fail
            go_quiet ((go_at_call 24; exact Calls.quiet_of_same ((lex_calls _ _ _).mono (fun e w' h => ⟨h.1, h.2.symm⟩))))

            have HX3 := Aside0.mk (below_step HX.out (pw_below_drewN (Below.refl wr.heap.size wr) nq))
            have HX3b := Aside0.mk (pw_below_drewN (Below.refl wr.heap.size wr) nq)
            generalize wr.drewN nq = w3 at HX3 HX3b ⊢
            have hT2 := (HX3.out.block T (blk_lt HT.out)).trans HT.out
            have t0 := (blk_cell hT2 0).trans rfl
            have t1 := (blk_cell hT2 1).trans rfl
            clear hT2
            replace b0 := (World.cell?_of_block (HX3b.out.block _ HQ.out)).trans b0
            replace b1 := (World.cell?_of_block (w' := w3) (a := ⟨bd.block, bd.off + 1, none⟩) (HX3b.out.block _ HQ.out)).trans b1

            have he := fun d W => Go.Proofs.Ytcdgenoakpmlbaa.U.eqA32 d W q.f0 P.f0 q.f1 P.f1
            have e7 : ((r.length : Int) + 1 == 0) = false := by simp; omega
            have e8 : decide (((r.length : Int) + 1) = 0) = false := decide_eq_false (by omega)
            have HIS := Aside0.mk (show unlikeL (P :: a.drop (i + 1)) bb = (if isP q P = true then unlikeL (a.drop (i + 1)) (q :: r) else P :: unlikeL (a.drop (i + 1)) (q :: r)) by rw [show unlikeL (P :: a.drop (i + 1)) bb = (if headB (bb.dropWhile (before P.f0)) P = true then unlikeL (a.drop (i + 1)) (bb.dropWhile (before P.f0)) else P :: unlikeL (a.drop (i + 1)) (bb.dropWhile (before P.f0))) from rfl, HD2.out]; rfl)
            cases his : isP q P
            · have hpe : (q.f0.toList == P.f0.toList && q.f1.toList == P.f1.toList) = false := his
              have HRS := Aside0.mk (show [P] ++ unlikeL (a.drop (i + 1)) (q :: r) = unlikeL (P :: a.drop (i + 1)) bb by rw [HIS.out, his]; rfl)
              clear his
              go_wp2_with fail
              go_quiet (fail)
              have HX4 := Aside0.mk (below_step HX3.out (pw_below_drewN (Below.refl w3.heap.size w3) nq))
              generalize w3.drewN nq = w4 at HX4 ⊢
              have hT2 := (HX4.out.block T (blk_lt HT.out)).trans HT.out
              have t0 := (blk_cell hT2 0).trans rfl
              have t1 := (blk_cell hT2 1).trans rfl
              clear hT2
              have HW4 := Aside0.mk (below_step HW1.out HX4.out)
              have HO4 := Aside0.mk (Kd.R_below HO1.out HX4.out)

              have HLO := Aside0.mk (show (out.length + 1) * 32 ≤ 140737488355328 from by have := HI.out.2.2.1; have := HI2.out; have := HL.out.1; omega)
              go_wp2_with (at_builtin; refine Kd.R_append k32 (w0 := w) w.heap.size rfl (.tmp 39) (.tmp 41) 25 32 (.agg #[.string ⟨#[]⟩, .string ⟨#[]⟩]) 32 rfl Try.underlying25 info32' rfl (by decide) (by omega) u5 out P [.string P.f0, .string P.f1] (fun _ => True) (fun _ => False) rfl rfl ?aP (fun _ hk => hk.elim) (fun _ _ => trivial) HO4.out HW4.out HW4.out.size HLO.out ?_; (case aP => exact k32_mkM _ _ _ P); intro v1 w5 ho hb hg hat; have HW5 := Aside0.mk hb; have HO5 := Aside0.mk ho; clear ho hb hg hat HW4 HO4 t0 t1)
              go_roundg (a.length - (i + 1))
              case measure => have := HI.out; have := HI2.out; omega
              case rel => exact ⟨i + 1, q :: r, some bd, d2, out ++ [P], by go_num, rfl, ⟨rfl, HI2.out, by have := HI.out; rw [List.length_append, List.length_singleton]; omega, by have := HI.out; have := HJ.out.2; simp only [List.length_cons, List.length_nil] at this ⊢; omega⟩, HC, HW5, HO5, ⟨by rw [← HU2.out, List.append_assoc]; exact congrArg (out ++ ·) HRS.out⟩⟩

            · have hpe : (q.f0.toList == P.f0.toList && q.f1.toList == P.f1.toList) = true := his
              have HRS := Aside0.mk (show unlikeL (a.drop (i + 1)) (q :: r) = unlikeL (P :: a.drop (i + 1)) bb by rw [HIS.out, his]; rfl)
              clear his
              go_wp2_with fail
              go_quiet (fail)
              have HX4 := Aside0.mk (below_step HX3.out (pw_below_drewN (Below.refl w3.heap.size w3) nq))
              generalize w3.drewN nq = w4 at HX4 ⊢
              have hT2 := (HX4.out.block T (blk_lt HT.out)).trans HT.out
              have t0 := (blk_cell hT2 0).trans rfl
              have t1 := (blk_cell hT2 1).trans rfl
              clear hT2
              have HW4 := Aside0.mk (below_step HW1.out HX4.out)
              have HO4 := Aside0.mk (Kd.R_below HO1.out HX4.out)

              go_wp2_with fail
              go_roundg (a.length - (i + 1))
              case measure => have := HI.out; have := HI2.out; omega
              case rel => exact ⟨i + 1, q :: r, some bd, d2, out, by go_num, rfl, ⟨rfl, HI2.out, by have := HI.out; omega, by have := HI.out; have := HJ.out.2; simp only [List.length_cons] at this ⊢; omega⟩, HC, HW4, HO4, ⟨by rw [← HU2.out]; exact congrArg (out ++ ·) HRS.out⟩⟩

    · have t1 : decide (i < a.length) = false := decide_eq_false hi
      have HU2 := Aside0.mk (show out = unlikeL a b by rw [← HU.out, List.drop_eq_nil_of_le (by omega)]; simp [unlikeL])
      clear hi HU
      go_wp2_with fail
      go_ret
      exact ⟨_, rfl, by rw [← HU2.out]; exact HO.out, HW.out⟩
end Go.Proofs.Ytcdgenoakpmlbaa.Mix
