/- What is called back in MixEach. -/
import Derived.Test.YtcdgenoakpmlbaaMixFirst
namespace Go.Proofs.Ytcdgenoakpmlbaa.Mix
open Go.RowKit Go.Proofs.YtcdgenoakpmlbaaW.PrintWords Go.Proofs.YtcdgenoakpmlbaaW.PrintLast Go.Proofs.YtcdgenoakpmlbaaW.PrintMore
open Go.Proofs.Ytcdgenoakpmlbaa Go.Proofs.Ytcdgenoakpmlbaa.Vals Go.Proofs.Ytcdgenoakpmlbaa.Q Go.Proofs.Ytcdgenoakpmlbaa.U
set_option linter.unusedVariables false
set_option linter.unusedSimpArgs false

/-- Whether all was told with its row. -/
def fineB (rows : List (List S32)) (L : List (Int × S32)) : Bool := L.all fun x => x.1 == firstFrom 0 rows x.2.f0
theorem fineB_snoc (rows : List (List S32)) (L : List (Int × S32)) (r : Int) (p : S32) : fineB rows (L ++ [(r, p)]) = (fineB rows L && (r == firstFrom 0 rows p.f0)) := by
  unfold fineB
  rw [List.all_append]
  simp
/-- The memory of what is called back: Y: whether all is fine; X: what was got; Z, S: the rows, and where to end. -/
structure Ev1 (w0 : World) (X Y Z S : Nat) (A : Option Addr) (c stop : Nat) (rows : List (List S32)) (w : World) (L : List (Int × S32)) (v : Value) : Prop where
  out : Out w0 X w (L.map Prod.snd) v
  fine : w.heap[Y]? = some (.cells #[.bool (fineB rows L)] 4 (0, 0))
  low : w0.heap.size ≤ Y
theorem Ev1.apart {w0 w : World} {X Y Z S c stop : Nat} {A : Option Addr} {rows : List (List S32)} {L : List (Int × S32)} {v : Value} (h : Ev1 w0 X Y Z S A c stop rows w L v) : X ≠ Y ∧ v.ownBlock ≠ some Y := by
  refine ⟨?_, fun e => ?_⟩
  · rintro rfl
    have := h.out.ex.symm.trans h.fine
    injection this with this
    injection this with _ this
    exact absurd this (by decide)
  · exact Kd.R_ne h.out.own h.fine (by decide) e.symm
def EvPost (w0 : World) (X Y Z S : Nat) (A : Option Addr) (c stop : Nat) (rows : List (List S32)) (w : World) (L : List (Int × S32)) (v : Value) (r : Int) (p : S32) (e : Ending) (w' : World) : Prop :=
  e = .returned (.bool (decide (L.length + 1 ≤ stop) && decide (L.length + 1 < 10000))) ∧ ∃ v', Ev1 w0 X Y Z S A c stop rows w' (L ++ [(r, p)]) v' ∧ (∀ k, v'.ownBlock = some k → v.ownBlock = some k ∨ w.heap.size ≤ k) ∧ Keeps (fun k => k = X ∨ k = Y ∨ v.ownBlock = some k) w w'
set_option maxHeartbeats 8000000 in
theorem back2_calls {w0 w : World} {X Y Z S c stop : Nat} {A : Option Addr} {rows : List (List S32)} {L : List (Int × S32)} {v : Value} (h : Ev1 w0 X Y Z S A c stop rows w L v)
    (hZ : w0.heap[Z]? = some (.cells #[.slice A rows.length c] 22 (0, 0))) (hS : w0.heap[S]? = some (.cells #[.int .u8 (stop : Int)] 5 (0, 0)))
    (hr : (Kd.slice 32 k32).C w0 A rows.length rows) (hf : FewR rows) (hrl : rows.length ≤ 1000000) (hst : stop ≤ 255)
    (hb : Below w0.heap.size w0 w) (hl : L.length < 1000000) (r : Int) (p : S32) :
    Calls Try.prog 13 #[.int .i64 r, .agg #[.string p.f0, .string p.f1], .pointer (some ⟨Y, 0, none⟩), .pointer (some ⟨Z, 0, none⟩), .pointer (some ⟨X, 0, none⟩), .pointer (some ⟨S, 0, none⟩)] w (EvPost w0 X Y Z S A c stop rows w L v r p) := by
  have HAP := Aside0.mk h.apart
  obtain ⟨ho, hfi, hlo⟩ := h
  obtain ⟨xs, hxs⟩ : ∃ xs, L.map Prod.snd = xs := ⟨_, rfl⟩
  rw [hxs] at ho
  have HXS := Aside0.mk (show L.map Prod.snd = xs ∧ xs.length = L.length from ⟨hxs, by rw [← hxs, List.length_map]⟩)
  obtain ⟨A0, c0, rfl⟩ := Kd.R_slice ho.own
  have HOO := Aside0.mk ho
  have HFI := Aside0.mk hfi
  have HLO := Aside0.mk hlo
  clear ho hfi hlo hxs
  have HZ := Aside0.mk hZ
  have HS := Aside0.mk hS
  have HR := Aside0.mk (And.intro hr (And.intro hf hrl))
  have HB := Aside0.mk hb
  have HL := Aside0.mk (And.intro hl hst)
  clear hZ hS hr hf hrl hb hl hst
  go_enter Try.func13, Try.ntmps13
  go_upto_region 1 with fail
  have hba := below_alloc (Below.refl w.heap.size w) (.cells #[.string p.f0, .string p.f1] 32)
  have HB1 := Aside0.mk hba
  have HT := Aside0.mk (blk_new w (.cells #[.string p.f0, .string p.f1] 32))
  clear hba
  generalize w.alloc (.cells #[.string p.f0, .string p.f1] 32) = w1 at HB1 HT ⊢
  obtain ⟨T, hT⟩ : ∃ T, w.heap.size = T := ⟨_, rfl⟩
  rw [hT] at HT ⊢
  have HXT := Aside0.mk (show X < T ∧ Y < T from by rw [← hT]; exact ⟨blk_lt HOO.out.ex, blk_lt HFI.out⟩)
  clear hT
  have HB2 := Aside0.mk (below_step HB.out HB1.out)
  have hz := (blk_below HZ.out HB2.out)
  have hs := (blk_below HS.out HB2.out)
  have hy := (HB1.out.block Y (blk_lt HFI.out)).trans HFI.out
  have z0 := (blk_cell hz 0).trans rfl
  have y0 := (blk_cell hy 0).trans rfl
  have yf := blk_frozen hy 0
  have t0 := (blk_cell HT.out 0).trans rfl
  have t1 := (blk_cell HT.out 1).trans rfl
  have HC := Aside0.mk (first_calls (Kd.C_below HR.out.1 HB2.out) HR.out.2.1 HR.out.2.2 p.f0 (c := c))
  obtain ⟨fb, hfb⟩ : ∃ fb, fineB rows L = fb := ⟨_, rfl⟩
  rw [hfb] at y0
  have HFB := Aside0.mk hfb
  have HY := Aside0.mk hy
  clear hfb hz hs hy
  have HX := Aside0.mk (HOO.out.keep HB1.out)
  have hK1 : Keeps (fun k => k = X ∨ k = Y ∨ (Value.slice A0 xs.length c0).ownBlock = some k) w w1 := Keeps.of_below HB1.out _
  have HK1 := Aside0.mk hK1
  clear hK1
  cases fb
  · go_upto_region 2 with fail
    have HY2 := Aside0.mk (show (w1.setCell ⟨Y, 0, none⟩ (.bool false)).heap[Y]? = some (.cells #[.bool (fineB rows (L ++ [(r, p)]))] 4 (0, 0)) from by rw [fineB_snoc, HFB.out]; exact blk_put HY.out 0 _ rfl)
    have HX2 := Aside0.mk (HX.out.stay (w' := (w1.setCell ⟨Y, 0, none⟩ (.bool false))) (Below.heap_setCell w1 ⟨Y, 0, none⟩ _ X HAP.out.1) (fun k hk => Below.heap_setCell w1 ⟨Y, 0, none⟩ _ k (fun e => HAP.out.2 (by rw [hk, e]))))
    have HK2 := Aside0.mk (show Keeps (fun k => k = X ∨ k = Y ∨ (Value.slice A0 xs.length c0).ownBlock = some k) w (w1.setCell ⟨Y, 0, none⟩ (.bool false)) from HK1.out.set (p := ⟨Y, 0, none⟩) (Or.inl (Or.inr (Or.inl rfl))) _)
    have HT2 := Aside0.mk (show (w1.setCell ⟨Y, 0, none⟩ (.bool false)).heap[T]? = some (.cells #[.string p.f0, .string p.f1] 32 (0, 0)) from (Below.heap_setCell w1 ⟨Y, 0, none⟩ _ T (Nat.ne_of_gt HXT.out.2)).trans HT.out)
    have HS2 := Aside0.mk (show (w1.setCell ⟨Y, 0, none⟩ (.bool false)).heap[S]? = some (.cells #[.int .u8 (stop : Int)] 5 (0, 0)) from (Below.heap_setCell w1 ⟨Y, 0, none⟩ _ S (fun e => by have := HLO.out; have := blk_lt HS.out; rw [show S = Y from e] at this; omega)).trans (blk_below HS.out HB2.out))
    clear y0 yf z0 t0 t1 HC HX HY HB2 HT
    generalize (w1.setCell ⟨Y, 0, none⟩ (.bool false)) = w3 at HY2 HX2 HK2 HT2 HS2 ⊢

    have x0 := (blk_cell HX2.out.ex 0).trans rfl
    have xf := blk_frozen HX2.out.ex 0
    have t0 := (blk_cell HT2.out 0).trans rfl
    have t1 := (blk_cell HT2.out 1).trans rfl
    have HO := Aside0.mk (Kd.R_mono HX2.out.own (ok' := fun _ => True) (fun _ _ => trivial))
    have HLL := Aside0.mk (show (xs.length + 1) * 32 ≤ 140737488355328 from by have := HL.out.1; have := HXS.out.2; omega)
    have HW3 := Aside0.mk (show w0.heap.size ≤ w3.heap.size from Nat.le_trans HB.out.size HK2.out.size)
    go_upto_region 3 with (at_builtin; refine Kd.R_append k32 (w0 := w3) w0.heap.size rfl (.tmp 18) (.tmp 20) 25 32 (.agg #[.string ⟨#[]⟩, .string ⟨#[]⟩]) 32 rfl Try.underlying25 info32' rfl (by decide) (by omega) (.slice A0 xs.length c0) xs p [.string p.f0, .string p.f1] (fun _ => True) (fun _ => False) rfl rfl ?aP (fun _ hk => hk.elim) (fun _ _ => trivial) HO.out (Below.refl _ _) HW3.out HLL.out ?_; (case aP => exact k32_mkM _ _ _ p); intro v1 w4 ho hb hg hat; have HV := Aside0.mk (R_tight ho); have HG := Aside0.mk hg; have HAT := Aside0.mk hat; have HE := Aside0.mk (show w4.heap[X]? = some (.cells #[.slice A0 xs.length c0] 25 (0, 0)) from (hg.block X (blk_lt HX2.out.ex) HX2.out.ne).trans HX2.out.ex); clear hb hg hat x0 xf t0 t1 HO; obtain ⟨A1, c1, rfl⟩ := Kd.R_slice ho; clear ho; have x0 := (blk_cell HE.out 0).trans rfl; have xf := blk_frozen HE.out 0)
    have e1 : (xs ++ [p]).length = xs.length + 1 := by simp
    have HO4 := Aside0.mk (show Out w0 X (w4.setCell ⟨X, 0, none⟩ (.slice A1 (xs.length + 1) c1)) (xs ++ [p]) (.slice A1 (xs.length + 1) c1) from by
      have HV2 := HV.out
      rw [e1] at HV2
      exact ⟨blk_put HE.out 0 _ rfl, HX2.out.low, Kd.R_far (p := ⟨X, 0, none⟩) HV2 (fun k hk e => Kd.R_ne HV2 HE.out (by decide) (by rw [hk]; rw [show k = X from e])) _⟩)
    have HK4 := Aside0.mk (show Keeps (fun k => k = X ∨ k = Y ∨ (Value.slice A0 xs.length c0).ownBlock = some k) w (w4.setCell ⟨X, 0, none⟩ (.slice A1 (xs.length + 1) c1)) from by
      have h2 : Keeps (fun k => k = X ∨ k = Y ∨ (Value.slice A0 xs.length c0).ownBlock = some k) w3 w4 := ⟨HG.out.os, HG.out.tape, HG.out.output, HG.out.size, fun k hk hn => HG.out.block k hk (fun e => hn (Or.inr (Or.inr e.symm)))⟩
      exact (HK2.out.trans h2).set (p := ⟨X, 0, none⟩) (Or.inl (Or.inl rfl)) _)
    have HY4 := Aside0.mk (show (w4.setCell ⟨X, 0, none⟩ (.slice A1 (xs.length + 1) c1)).heap[Y]? = some (.cells #[.bool (fineB rows (L ++ [(r, p)]))] 4 (0, 0)) from (Below.heap_setCell w4 ⟨X, 0, none⟩ _ Y (fun e => HAP.out.1 e.symm)).trans ((HG.out.block Y (blk_lt HY2.out) (fun e => HAP.out.2 e.symm)).trans HY2.out))
    have HS4 := Aside0.mk (show (w4.setCell ⟨X, 0, none⟩ (.slice A1 (xs.length + 1) c1)).heap[S]? = some (.cells #[.int .u8 (stop : Int)] 5 (0, 0)) from (Below.heap_setCell w4 ⟨X, 0, none⟩ _ S (fun e => by have := HOO.out.low; have := blk_lt HS.out; rw [show S = X from e] at this; omega)).trans ((HG.out.block S (blk_lt HS2.out) (fun e => by have := (HOO.out.lt e.symm).1; have := blk_lt HS.out; omega)).trans HS2.out))
    have HFR := Aside0.mk (show ∀ k, (Value.slice A1 (xs.length + 1) c1).ownBlock = some k → (Value.slice A0 xs.length c0).ownBlock = some k ∨ w.heap.size ≤ k from fun k hk => by
      have HAT2 := HAT.out
      rw [e1] at HAT2
      rcases HAT2 with h | ⟨b, h, hb⟩
      · exact Or.inl (by rw [← h]; exact hk)
      · rw [hk] at h
        injection h with h
        exact Or.inr (by rw [h]; exact Nat.le_trans HK2.out.size hb))
    clear e1 x0 xf HV HE HG HAT HY2 HX2 HK2 HT2 HS2
    generalize w4.setCell ⟨X, 0, none⟩ (.slice A1 (xs.length + 1) c1) = w5 at HO4 HK4 HY4 HS4 ⊢
    have x0 := (blk_cell HO4.out.ex 0).trans rfl
    have s0 := (blk_cell HS4.out 0).trans rfl
    have hst : (stop : Int) ≤ 255 := by have := HL.out.2; omega
    have hxl : (xs.length : Int) ≤ 1000000 := by have := HL.out.1; have := HXS.out.2; omega
    have HFIN := Aside0.mk (show Ev1 w0 X Y Z S A c stop rows w5 (L ++ [(r, p)]) (.slice A1 (xs.length + 1) c1) from ⟨by rw [List.map_append, HXS.out.1]; exact HO4.out, HY4.out, HLO.out⟩)
    clear HO4 HY4 HS4
    by_cases h1 : xs.length + 1 ≤ stop
    · have q1 : decide (xs.length + 1 ≤ stop) = true := decide_eq_true h1
      have q2 : decide ((xs.length : Int) + 1 ≤ (stop : Int)) = true := decide_eq_true (by omega)
      have q3 : decide ((xs.length : Int) + 1 < 10000) = true := decide_eq_true (by omega)
      have HRES := Aside0.mk (show (decide (L.length + 1 ≤ stop) && decide (L.length + 1 < 10000)) = true from by
        have := HXS.out.2
        rw [decide_eq_true (by omega), decide_eq_true (by omega)]
        rfl)
      clear h1
      go_wp2_with fail
      go_ret
      exact ⟨by rw [HRES.out]; rfl, _, HFIN.out, HFR.out, HK4.out⟩
    · have q1 : decide (xs.length + 1 ≤ stop) = false := decide_eq_false h1
      have q2 : decide ((xs.length : Int) + 1 ≤ (stop : Int)) = false := decide_eq_false (by omega)
      have HRES := Aside0.mk (show (decide (L.length + 1 ≤ stop) && decide (L.length + 1 < 10000)) = false from by
        have := HXS.out.2
        rw [decide_eq_false (by omega)]
        rfl)
      clear h1
      go_wp2_with fail
      go_ret
      exact ⟨by rw [HRES.out]; rfl, _, HFIN.out, HFR.out, HK4.out⟩

  · go_wp2_with fail
    refine HC.out.mono ?_
    rintro en w2 ⟨rfl, hb2⟩
    have HY1 := Aside0.mk ((hb2.block Y (blk_lt HY.out)).trans HY.out)
    have HX1 := Aside0.mk (HX.out.keep hb2)
    have HK1 := Aside0.mk (HK1.out.then_below hb2)
    have HT1 := Aside0.mk ((hb2.block T (blk_lt HT.out)).trans HT.out)
    have HB3 := Aside0.mk (below_step HB2.out hb2)
    clear y0 yf z0 t0 t1 HC HX HY HB2 HT hb2
    have y0 := (blk_cell HY1.out 0).trans rfl
    have yf := blk_frozen HY1.out 0
    go_upto_region 2 with fail
    have HY2 := Aside0.mk (show (w2.setCell ⟨Y, 0, none⟩ (.bool (r == firstFrom 0 rows p.f0))).heap[Y]? = some (.cells #[.bool (fineB rows (L ++ [(r, p)]))] 4 (0, 0)) from by rw [fineB_snoc, HFB.out]; exact blk_put HY1.out 0 _ rfl)
    have HX2 := Aside0.mk (HX1.out.stay (w' := (w2.setCell ⟨Y, 0, none⟩ (.bool (r == firstFrom 0 rows p.f0)))) (Below.heap_setCell w2 ⟨Y, 0, none⟩ _ X HAP.out.1) (fun k hk => Below.heap_setCell w2 ⟨Y, 0, none⟩ _ k (fun e => HAP.out.2 (by rw [hk, e]))))
    have HK2 := Aside0.mk (show Keeps (fun k => k = X ∨ k = Y ∨ (Value.slice A0 xs.length c0).ownBlock = some k) w (w2.setCell ⟨Y, 0, none⟩ (.bool (r == firstFrom 0 rows p.f0))) from HK1.out.set (p := ⟨Y, 0, none⟩) (Or.inl (Or.inr (Or.inl rfl))) _)
    have HT2 := Aside0.mk (show (w2.setCell ⟨Y, 0, none⟩ (.bool (r == firstFrom 0 rows p.f0))).heap[T]? = some (.cells #[.string p.f0, .string p.f1] 32 (0, 0)) from (Below.heap_setCell w2 ⟨Y, 0, none⟩ _ T (Nat.ne_of_gt HXT.out.2)).trans HT1.out)
    have HS2 := Aside0.mk (show (w2.setCell ⟨Y, 0, none⟩ (.bool (r == firstFrom 0 rows p.f0))).heap[S]? = some (.cells #[.int .u8 (stop : Int)] 5 (0, 0)) from (Below.heap_setCell w2 ⟨Y, 0, none⟩ _ S (fun e => by have := HLO.out; have := blk_lt HS.out; rw [show S = Y from e] at this; omega)).trans (blk_below HS.out HB3.out))
    clear y0 yf HY1 HX1 HK1 HT1 HB3
    generalize (w2.setCell ⟨Y, 0, none⟩ (.bool (r == firstFrom 0 rows p.f0))) = w3 at HY2 HX2 HK2 HT2 HS2 ⊢
    have x0 := (blk_cell HX2.out.ex 0).trans rfl
    have xf := blk_frozen HX2.out.ex 0
    have t0 := (blk_cell HT2.out 0).trans rfl
    have t1 := (blk_cell HT2.out 1).trans rfl
    have HO := Aside0.mk (Kd.R_mono HX2.out.own (ok' := fun _ => True) (fun _ _ => trivial))
    have HLL := Aside0.mk (show (xs.length + 1) * 32 ≤ 140737488355328 from by have := HL.out.1; have := HXS.out.2; omega)
    have HW3 := Aside0.mk (show w0.heap.size ≤ w3.heap.size from Nat.le_trans HB.out.size HK2.out.size)
    go_upto_region 3 with (at_builtin; refine Kd.R_append k32 (w0 := w3) w0.heap.size rfl (.tmp 18) (.tmp 20) 25 32 (.agg #[.string ⟨#[]⟩, .string ⟨#[]⟩]) 32 rfl Try.underlying25 info32' rfl (by decide) (by omega) (.slice A0 xs.length c0) xs p [.string p.f0, .string p.f1] (fun _ => True) (fun _ => False) rfl rfl ?aP (fun _ hk => hk.elim) (fun _ _ => trivial) HO.out (Below.refl _ _) HW3.out HLL.out ?_; (case aP => exact k32_mkM _ _ _ p); intro v1 w4 ho hb hg hat; have HV := Aside0.mk (R_tight ho); have HG := Aside0.mk hg; have HAT := Aside0.mk hat; have HE := Aside0.mk (show w4.heap[X]? = some (.cells #[.slice A0 xs.length c0] 25 (0, 0)) from (hg.block X (blk_lt HX2.out.ex) HX2.out.ne).trans HX2.out.ex); clear hb hg hat x0 xf t0 t1 HO; obtain ⟨A1, c1, rfl⟩ := Kd.R_slice ho; clear ho; have x0 := (blk_cell HE.out 0).trans rfl; have xf := blk_frozen HE.out 0)
    have e1 : (xs ++ [p]).length = xs.length + 1 := by simp
    have HO4 := Aside0.mk (show Out w0 X (w4.setCell ⟨X, 0, none⟩ (.slice A1 (xs.length + 1) c1)) (xs ++ [p]) (.slice A1 (xs.length + 1) c1) from by
      have HV2 := HV.out
      rw [e1] at HV2
      exact ⟨blk_put HE.out 0 _ rfl, HX2.out.low, Kd.R_far (p := ⟨X, 0, none⟩) HV2 (fun k hk e => Kd.R_ne HV2 HE.out (by decide) (by rw [hk]; rw [show k = X from e])) _⟩)
    have HK4 := Aside0.mk (show Keeps (fun k => k = X ∨ k = Y ∨ (Value.slice A0 xs.length c0).ownBlock = some k) w (w4.setCell ⟨X, 0, none⟩ (.slice A1 (xs.length + 1) c1)) from by
      have h2 : Keeps (fun k => k = X ∨ k = Y ∨ (Value.slice A0 xs.length c0).ownBlock = some k) w3 w4 := ⟨HG.out.os, HG.out.tape, HG.out.output, HG.out.size, fun k hk hn => HG.out.block k hk (fun e => hn (Or.inr (Or.inr e.symm)))⟩
      exact (HK2.out.trans h2).set (p := ⟨X, 0, none⟩) (Or.inl (Or.inl rfl)) _)
    have HY4 := Aside0.mk (show (w4.setCell ⟨X, 0, none⟩ (.slice A1 (xs.length + 1) c1)).heap[Y]? = some (.cells #[.bool (fineB rows (L ++ [(r, p)]))] 4 (0, 0)) from (Below.heap_setCell w4 ⟨X, 0, none⟩ _ Y (fun e => HAP.out.1 e.symm)).trans ((HG.out.block Y (blk_lt HY2.out) (fun e => HAP.out.2 e.symm)).trans HY2.out))
    have HS4 := Aside0.mk (show (w4.setCell ⟨X, 0, none⟩ (.slice A1 (xs.length + 1) c1)).heap[S]? = some (.cells #[.int .u8 (stop : Int)] 5 (0, 0)) from (Below.heap_setCell w4 ⟨X, 0, none⟩ _ S (fun e => by have := HOO.out.low; have := blk_lt HS.out; rw [show S = X from e] at this; omega)).trans ((HG.out.block S (blk_lt HS2.out) (fun e => by have := (HOO.out.lt e.symm).1; have := blk_lt HS.out; omega)).trans HS2.out))
    have HFR := Aside0.mk (show ∀ k, (Value.slice A1 (xs.length + 1) c1).ownBlock = some k → (Value.slice A0 xs.length c0).ownBlock = some k ∨ w.heap.size ≤ k from fun k hk => by
      have HAT2 := HAT.out
      rw [e1] at HAT2
      rcases HAT2 with h | ⟨b, h, hb⟩
      · exact Or.inl (by rw [← h]; exact hk)
      · rw [hk] at h
        injection h with h
        exact Or.inr (by rw [h]; exact Nat.le_trans HK2.out.size hb))
    clear e1 x0 xf HV HE HG HAT HY2 HX2 HK2 HT2 HS2
    generalize w4.setCell ⟨X, 0, none⟩ (.slice A1 (xs.length + 1) c1) = w5 at HO4 HK4 HY4 HS4 ⊢
    have x0 := (blk_cell HO4.out.ex 0).trans rfl
    have s0 := (blk_cell HS4.out 0).trans rfl
    have hst : (stop : Int) ≤ 255 := by have := HL.out.2; omega
    have hxl : (xs.length : Int) ≤ 1000000 := by have := HL.out.1; have := HXS.out.2; omega
    have HFIN := Aside0.mk (show Ev1 w0 X Y Z S A c stop rows w5 (L ++ [(r, p)]) (.slice A1 (xs.length + 1) c1) from ⟨by rw [List.map_append, HXS.out.1]; exact HO4.out, HY4.out, HLO.out⟩)
    clear HO4 HY4 HS4
    by_cases h1 : xs.length + 1 ≤ stop
    · have q1 : decide (xs.length + 1 ≤ stop) = true := decide_eq_true h1
      have q2 : decide ((xs.length : Int) + 1 ≤ (stop : Int)) = true := decide_eq_true (by omega)
      have q3 : decide ((xs.length : Int) + 1 < 10000) = true := decide_eq_true (by omega)
      have HRES := Aside0.mk (show (decide (L.length + 1 ≤ stop) && decide (L.length + 1 < 10000)) = true from by
        have := HXS.out.2
        rw [decide_eq_true (by omega), decide_eq_true (by omega)]
        rfl)
      clear h1
      go_wp2_with fail
      go_ret
      exact ⟨by rw [HRES.out]; rfl, _, HFIN.out, HFR.out, HK4.out⟩
    · have q1 : decide (xs.length + 1 ≤ stop) = false := decide_eq_false h1
      have q2 : decide ((xs.length : Int) + 1 ≤ (stop : Int)) = false := decide_eq_false (by omega)
      have HRES := Aside0.mk (show (decide (L.length + 1 ≤ stop) && decide (L.length + 1 < 10000)) = false from by
        have := HXS.out.2
        rw [decide_eq_false (by omega)]
        rfl)
      clear h1
      go_wp2_with fail
      go_ret
      exact ⟨by rw [HRES.out]; rfl, _, HFIN.out, HFR.out, HK4.out⟩
end Go.Proofs.Ytcdgenoakpmlbaa.Mix
