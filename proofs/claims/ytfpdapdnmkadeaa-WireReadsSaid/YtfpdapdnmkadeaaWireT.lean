/- wire.Told: what its call comes to. -/
import Derived.Test.YtfpdapdnmkadeaaWireR
namespace Go.Proofs.Ytfpdapdnmkadeaa.Wire
open Go.RowKit Go.Proofs.YtfpdapdnmkadeaaW.PrintWords Go.Proofs.YtfpdapdnmkadeaaW.PrintLast Go.Proofs.YtfpdapdnmkadeaaW.PrintMore
open Go.Proofs.Ytfpdapdnmkadeaa Go.Proofs.Ytfpdapdnmkadeaa.Vals Go.Proofs.Ytfpdapdnmkadeaa.Word Go.Proofs.Ytfpdapdnmkadeaa.Q
set_option linter.unusedVariables false
set_option linter.unusedSimpArgs false

def noAns : Value := .agg #[.int .i64 0, .string ⟨#[]⟩, .slice none 0 0]
def TPost (w : World) (b : List Int) (e : Ending) (w' : World) : Prop :=
  (okA b → ∃ vl, e = .returned (.tuple #[.agg #[.int .i64 (rA b).E, .string (rA b).s, vl], .int .i64 0]) ∧ Kd.R k27 27 w' w.heap.size (fun _ => True) vl (rA b).l) ∧
  (¬ okA b → e = .returned (.tuple #[noAns, .int .i64 3])) ∧ Below w.heap.size w w'

theorem three_put {w : World} {S : Nat} {t : TypeId} {a0 a1 a2 : Value} (h : w.heap[S]? = some (.cells #[a0, a1, a2] t (0, 0))) (c0 c1 c2 : Value) :
    (((w.setCell ⟨S, 0, none⟩ c0).setCell ⟨S, 1, none⟩ c1).setCell ⟨S, 2, none⟩ c2).heap[S]? = some (.cells #[c0, c1, c2] t (0, 0)) ∧ Keeps (fun k => k = S) w (((w.setCell ⟨S, 0, none⟩ c0).setCell ⟨S, 1, none⟩ c1).setCell ⟨S, 2, none⟩ c2) := by
  have h1 := blk_put (cs' := #[c0, a1, a2]) h 0 c0 (by simp)
  have h2 := blk_put (cs' := #[c0, c1, a2]) h1 1 c1 (by simp)
  have h3 := blk_put (cs' := #[c0, c1, c2]) h2 2 c2 (by simp)
  have k1 := (Keeps.refl (fun k => k = S) w).set (p := ⟨S, 0, none⟩) (Or.inl rfl) c0
  have k2 := k1.set (p := ⟨S, 1, none⟩) (Or.inl rfl) c1
  have k3 := k2.set (p := ⟨S, 2, none⟩) (Or.inl rfl) c2
  exact ⟨h3, k3⟩

set_option maxHeartbeats 4000000 in
set_option maxRecDepth 100000 in
theorem told_calls {w : World} {v : Value} {b : List Int} (h : Bys b v w) (hby : Byte b) (hl : b.length ≤ 140737488351232) : Calls Try.prog 12 #[v] w (TPost w b) := by
  have HZ := Aside0.mk (blk_new w (.cells #[.int .i64 0, .string ⟨#[]⟩, .slice none 0 0] 25))
  have HB := Aside0.mk (below_alloc (Below.refl w.heap.size w) (.cells #[.int .i64 0, .string ⟨#[]⟩, .slice none 0 0] 25))
  have HOP := Aside0.mk (open_calls (h.mono HB.out) hl)
  have HYY := Aside0.mk hby
  clear h hby
  go_enter Try.func12, Try.ntmps12
  go_upto_region 1 with fail
  obtain ⟨N, hN⟩ : ∃ N, w.heap.size = N := ⟨_, rfl⟩
  have HN := Aside0.mk hN
  rw [hN] at HZ HB
  try rw [hN]
  clear hN
  generalize w.alloc (.cells #[.int .i64 0, .string ⟨#[]⟩, .slice none 0 0] 25) = w1 at HZ HB HOP ⊢
  go_wp2_with fail
  refine HOP.out.mono ?_
  rintro en w2 ⟨g, rfl, hr, hb, hg⟩
  have HR2 := Aside0.mk hr
  have HZ2 := Aside0.mk (blk_below HZ.out hb)
  have HB2 := Aside0.mk (below_trans HB.out (below_low hb (Nat.le_of_lt (blk_lt HZ.out))))
  have hng : N < g := by have := blk_lt HZ.out; omega
  have HG := Aside0.mk hng
  clear hr hb hg hng HOP HZ HB
  go_wp2_with fail
  refine (num_wide HR2.out HYY.out (n := ((1 : Nat) : Int)) (by decide)).mono ?_
  rintro en w3 ⟨rfl, hr, hk⟩
  have HR3 := Aside0.mk (show Rd w3 g (b1 b) (e1 b) from hr)
  have HY3 := Aside0.mk (show Byte (b1 b) from HYY.out.rawB _ _)
  have HZ3 := Aside0.mk (hk.blk HZ2.out (by have := HG.out; omega))
  have HB3 := Aside0.mk (Keeps.below_then HB2.out (by have := HN.out; omega) hk (fun j hj => by have h1 : j = g := hj; have := HG.out; omega))
  have hEb := num4_bd (HYY.out.rawO 0 ((1 : Nat) : Int)) (by have := rawO_le b 0 1; omega)
  clear hr hk HR2 HZ2 HB2
  obtain ⟨E, hE⟩ : ∃ E, num (rawO b 0 ((1 : Nat) : Int)) = E := ⟨_, rfl⟩
  have HE := Aside0.mk (show (rA b).E = E from hE)
  rw [hE] at hEb ⊢
  clear hE
  go_wp2_with fail
  refine (rlong_calls HR3.out HY3.out).mono ?_
  rintro en w4 ⟨rfl, hr, hk⟩
  have HR4 := Aside0.mk (show Rd w4 g (b2 b) (e2 b) from hr)
  have HY4 := Aside0.mk (show Byte (b2 b) from by unfold b2 rdB; exact (HY3.out.rawB _ _).rawB _ _)
  have HZ4 := Aside0.mk (hk.blk HZ3.out (by have := HG.out; omega))
  have HB4 := Aside0.mk (Keeps.below_then HB3.out (by have := HN.out; omega) hk (fun j hj => by have h1 : j = g := hj; have := HG.out; omega))
  clear hr hk HR3 HZ3 HB3 HY3 hEb
  obtain ⟨s, hs⟩ : ∃ s, rdS 2 (b1 b) (e1 b) = s := ⟨_, rfl⟩
  have HS := Aside0.mk (show (rA b).s = s from hs)
  rw [hs]
  clear hs
  go_upto_region 3 with fail
  have HT5 := Aside0.mk (blk_new w4 (.cells #[.int .i64 E, .string s, .slice none 0 0] 25))
  have HR5 := Aside0.mk (HR4.out.below (below_alloc (Below.refl _ _) (.cells #[.int .i64 E, .string s, .slice none 0 0] 25)))
  have HZ5 := Aside0.mk (blk_below HZ4.out (below_alloc (Below.refl _ _) (.cells #[.int .i64 E, .string s, .slice none 0 0] 25)))
  have HB5 := Aside0.mk (below_trans HB4.out (below_low (below_alloc (Below.refl w4.heap.size w4) (.cells #[.int .i64 E, .string s, .slice none 0 0] 25)) (by have := blk_lt HZ4.out; omega)))
  have HGT0 := Aside0.mk (show N < g ∧ g < w4.heap.size from ⟨HG.out, HR4.out.lt⟩)
  clear HR4 HZ4 HB4
  generalize w4.alloc (.cells #[.int .i64 E, .string s, .slice none 0 0] 25) = w5 at HT5 HR5 HZ5 HB5 ⊢
  generalize w4.heap.size = T at HT5 HGT0 ⊢
  obtain ⟨B, hB⟩ : ∃ B, w5.heap.size = B := ⟨_, rfl⟩
  have HGT := Aside0.mk (show N < g ∧ g < T ∧ T < B from ⟨HGT0.out.1, HGT0.out.2, by rw [← hB]; exact blk_lt HT5.out⟩)
  have HSB := Aside0.mk (Nat.le_of_eq hB.symm)
  clear HGT0 hB
  go_wp2_with fail
  refine (num_wide HR5.out HY4.out (n := ((4 : Nat) : Int)) (by decide)).mono ?_
  rintro en w6 ⟨rfl, hr, hk⟩
  have HR6 := Aside0.mk (show Rd w6 g (b3 b) (e3 b) from hr)
  have HY6 := Aside0.mk (show Byte (b3 b) from HY4.out.rawB _ _)
  have HZ6 := Aside0.mk (hk.blk HZ5.out (by have := HG.out; omega))
  have HT6 := Aside0.mk (hk.blk HT5.out (by have := HGT.out; omega))
  have HS6 := Aside0.mk (Nat.le_trans HSB.out hk.size)
  have HB6 := Aside0.mk (Keeps.below_then HB5.out (by have := HN.out; omega) hk (fun j hj => by have h1 : j = g := hj; have := HG.out; omega))
  have hnn : num (rawO (b2 b) (e2 b) ((4 : Nat) : Int)) = ((nP b : Nat) : Int) := by
    have h1 := (num4_bd (HY4.out.rawO (e2 b) ((4 : Nat) : Int)) (by have := rawO_le (b2 b) (e2 b) 4; omega)).1
    unfold nP
    omega
  rw [hnn]
  clear hr hk HR5 HZ5 HT5 HB5 HY4 HSB hnn
  by_cases hbig : 65536 < nP b
  · have g1 : decide ((65536 : Int) < ((nP b : Nat) : Int)) = true := decide_eq_true (by omega)
    have g2 : decide (65536 < nP b) = true := decide_eq_true hbig
    have HNO := Aside0.mk (show ¬ okA b from fun h => by have := h.1; omega)
    generalize nP b = nb at g1 g2 ⊢
    clear hbig
    have z0 := (blk_cell HZ6.out 0).trans rfl
    have z1 := (blk_cell HZ6.out 1).trans rfl
    have z2 := (blk_cell HZ6.out 2).trans rfl
    have zf := fun i => blk_frozen HZ6.out i
    go_wp2_with fail
    have hfin := three_put HZ6.out (.int .i64 0) (.string ⟨#[]⟩) (.slice none 0 0)
    refine bodyPost_ret (results_ct rfl _ _ N 25 #[.int .i64 0, .string ⟨#[]⟩, .slice none 0 0] (0, 0) _ rfl hfin.1 Try.underlying25 rfl (by kernel_rfl)) rfl ⟨fun h => absurd h HNO.out, fun _ => rfl, ?_⟩
    exact Keeps.below_then (by rw [HN.out]; exact HB6.out) (Nat.le_refl _) hfin.2 (fun j hj => by have h1 : j = N := hj; have := HN.out; omega)
  · have g1 : decide ((65536 : Int) < ((nP b : Nat) : Int)) = false := decide_eq_false (by omega)
    have g2 : decide (65536 < nP b) = false := decide_eq_false hbig
    have HLE := Aside0.mk (show nP b ≤ 65536 by omega)
    go_wp2_with fail
    go_loopg [21] (nP b + 1) (fun kq v21 wx => ∃ (i : Nat) (bs : List Int) (e : Int) (vl : Value) (acc : List S27), v21 = .int .u64 (i : Int) ∧ Aside0 (kq = nP b + 1 - i ∧ i ≤ nP b ∧ acc.length ≤ i) ∧ Aside0 (Rd wx g bs e) ∧ Aside0 (Byte bs) ∧ Aside0 (wx.heap[T]? = some (.cells #[.int .i64 E, .string s, vl] 25 (0, 0))) ∧
      Aside0 (rP (nP b) (b3 b) (e3 b) = (acc ++ (rP (nP b - i) bs e).1, (rP (nP b - i) bs e).2)) ∧ Aside0 (Kd.R k27 27 wx B (fun _ => True) vl acc) ∧ Aside0 (B ≤ wx.heap.size) ∧ Aside0 (wx.heap[N]? = some (.cells #[.int .i64 0, .string ⟨#[]⟩, .slice none 0 0] 25 (0, 0))) ∧ Aside0 (Below N w wx))
    case atStart => exact ⟨0, b3 b, e3 b, .slice none 0 0, [], rfl, ⟨rfl, by omega, by simp⟩, HR6, HY6, HT6, ⟨by simp⟩, ⟨Kd.R_nil _ _ _ _ _⟩, HS6, HZ6, HB6⟩
    case round =>
      clear HR6 HY6 HT6 HS6 HZ6 HB6
      obtain ⟨i, bs, e, vl, acc, rfl, HI, HR, HY, HT, HQ, HV, HSZ, HZ, HB⟩ := hrel
      by_cases hi : i < nP b
      · have g3 : decide ((i : Int) < ((nP b : Nat) : Int)) = true := decide_eq_true (by omega)
        go_wp2_with fail
        refine (err_calls HR.out).mono ?_
        rintro en w7 ⟨rfl, rfl⟩
        by_cases he : e = 0
        · subst he
          have HSTEP := Aside0.mk (show rP (nP b) (b3 b) (e3 b) = ((acc ++ [⟨rdS 1 bs 0, rdS 2 (rdB 1 bs 0) (rdE 1 bs 0)⟩]) ++ (rP (nP b - (i + 1)) (rdB 2 (rdB 1 bs 0) (rdE 1 bs 0)) (rdE 2 (rdB 1 bs 0) (rdE 1 bs 0))).1, (rP (nP b - (i + 1)) (rdB 2 (rdB 1 bs 0) (rdE 1 bs 0)) (rdE 2 (rdB 1 bs 0) (rdE 1 bs 0))).2) from by
            rw [HQ.out, show nP b - i = (nP b - (i + 1)) + 1 by omega, rP_step]
            simp)
          have HY1 := Aside0.mk (show Byte (rdB 1 bs 0) from by unfold rdB; exact (HY.out.rawB _ _).rawB _ _)
          have HY2 := Aside0.mk (show Byte (rdB 2 (rdB 1 bs 0) (rdE 1 bs 0)) from by unfold rdB; exact (Byte.rawB (show Byte (rdB 1 bs 0) from HY1.out) _ _).rawB _ _)
          have HVL := Aside0.mk (show ∀ x, vl ≠ .int .u8 x from fun x e => by obtain ⟨A, c, h, _⟩ := Kd.R_reads HV.out; rw [h] at e; cases e)
          have HAL := Aside0.mk (show (acc.length + 1) * 32 ≤ 140737488355328 by have := HI.out; have := HLE.out; omega)
          have HR0 := Aside0.mk (HR.out.below (pw_below_drewN (Below.refl _ _) 1))
          have HT0 := Aside0.mk (show wr.drew.heap[T]? = some (.cells #[.int .i64 E, .string s, vl] 25 (0, 0)) from HT.out)
          have HZ0 := Aside0.mk (show wr.drew.heap[N]? = some (.cells #[.int .i64 0, .string ⟨#[]⟩, .slice none 0 0] 25 (0, 0)) from HZ.out)
          have HV0 := Aside0.mk (Kd.R_below HV.out (w1 := wr.drew) (pw_below_drewN (Below.refl _ _) 1))
          have HS0 := Aside0.mk (show B ≤ wr.drew.heap.size from HSZ.out)
          have HB0 := Aside0.mk (show Below N w wr.drew from below_trans HB.out (below_less (pw_below_drewN (Below.refl wr.heap.size wr) 1) (by have := blk_lt HZ.out; omega)))
          have k2 := (blk_cell HT.out 2).trans rfl
          clear HR HV HSZ HB HQ HT HZ
          go_upto_region 9 with fail
          refine wp_region_any (by kernel_rfl) ?_
          change wpAny _ _ _ _ _ _ _ (World.drew _)
          refine wpAny_take (i := 0) (v := ?_) rfl (by kernel_rfl) (by kernel_rfl) (by kernel_rfl) (fun _ _ _ h => h) (Or.inl ⟨by rfl, ?_⟩) ?_
          rotate_left 1
          · intro w; first | (go_simp; done) | (go_simp; with_reducible rfl)
          refine wpAny_take (i := 2) (v := ?_) rfl (by kernel_rfl) (by kernel_rfl) (by kernel_rfl) (fun _ _ _ h => h) (Or.inl ⟨by rfl, ?_⟩) ?_
          rotate_left 1
          · intro w; first | (go_simp; done) | (go_simp; with_reducible rfl)
          refine wpAny_take (i := 4) (v := ?_) rfl (by kernel_rfl) (by kernel_rfl) (by kernel_rfl) (fun _ _ _ h => h) (Or.inl ⟨by rfl, ?_⟩) ?_
          rotate_left 1
          · intro w; first | (go_simp; done) | (go_simp; with_reducible rfl)
          refine wpAny_ready (rs := [1, 3]) (by kernel_rfl) (by simp) ?_
          refine AllReady.cons rfl (fun K hK => ?_) ?_
          · skip
            try have k2 := (blk_cell (blk_below HT2.out (below_alloc (Below.refl _ _) (.cells #[.string (rdS 1 bs 0), .string (rdS 2 (rdB 1 bs 0) (rdE 1 bs 0))] 27))) 2).trans rfl
            go_simp
            refine hK _ _ ?_
            clear hK K
            refine wpAny_ready (rs := [3]) (by kernel_rfl) (by simp) ?_
            refine AllReady.cons rfl (fun K hK => ?_) AllReady.nil
            go_simp
            refine (rshort_calls HR0.out HY.out).mono ?_
            rintro en w1 ⟨rfl, hr, hk⟩
            have HR1 := Aside0.mk hr
            have HT1 := Aside0.mk (hk.blk HT0.out (by have := HGT.out; omega))
            have HV1 := Aside0.mk (R_keeps HV0.out hk (by have := HGT.out; omega))
            have HZ1 := Aside0.mk (hk.blk HZ0.out (by have := HGT.out; omega))
            have HS1 := Aside0.mk (Nat.le_trans HS0.out hk.size)
            have HB1 := Aside0.mk (Keeps.below_then HB0.out (by have := HN.out; omega) hk (fun j hj => by have h1 : j = g := hj; have := HGT.out; omega))
            have k2 := (blk_cell HT1.out 2).trans rfl
            clear hr hk
            refine hK _ _ ?_
            clear hK K
            refine wpAny_ready (rs := [5]) (by kernel_rfl) (by simp) ?_
            refine AllReady.cons rfl (fun K hK => ?_) AllReady.nil
            go_simp
            refine (rlong_calls HR1.out HY1.out).mono ?_
            rintro en w2 ⟨rfl, hr, hk⟩
            have HR2 := Aside0.mk hr
            have HT2 := Aside0.mk (hk.blk HT1.out (by have := HGT.out; omega))
            have HV2 := Aside0.mk (R_keeps HV1.out hk (by have := HGT.out; omega))
            have HZ2 := Aside0.mk (hk.blk HZ1.out (by have := HGT.out; omega))
            have HS2 := Aside0.mk (Nat.le_trans HS1.out hk.size)
            have HB2 := Aside0.mk (Keeps.below_then HB1.out (by have := HN.out; omega) hk (fun j hj => by have h1 : j = g := hj; have := HGT.out; omega))
            have k2 := (blk_cell HT2.out 2).trans rfl
            clear hr hk
            refine hK _ _ ?_
            clear hK K
            refine wpAny_take (i := 6) (v := ?_) rfl (by kernel_rfl) (by kernel_rfl) (by kernel_rfl) (fun _ _ _ h => h) (Or.inl ⟨by rfl, ?_⟩) ?_
            rotate_left 1
            · intro w; first | (go_simp; done) | (go_simp; with_reducible rfl)
            refine wpAny_ready (rs := [7]) (by kernel_rfl) (by simp) ?_
            refine AllReady.cons rfl (fun K hK => ?_) AllReady.nil
            go_simp
            refine hK _ _ ?_
            clear hK K
            refine wpAny_ready (rs := [8]) (by kernel_rfl) (by simp) ?_
            refine AllReady.cons rfl (fun K hK => ?_) AllReady.nil
            refine Kd.R_append_step k27 (w0 := w2) B (by rfl) (.tmp 27) (.tmp 33) 23 27 (.agg #[.string ⟨#[]⟩, .string ⟨#[]⟩]) 32 rfl Try.underlying23 info_pair rfl (by decide) (by decide) vl acc ⟨rdS 1 bs 0, rdS 2 (rdB 1 bs 0) (rdE 1 bs 0)⟩ [.string (rdS 1 bs 0), .string (rdS 2 (rdB 1 bs 0) (rdE 1 bs 0))] (fun _ => True) (fun _ => False) rfl rfl (k27_mkM _ _ _ _) (fun _ hk => hk.elim) (fun _ _ => trivial) HV2.out (Below.refl _ _) HS2.out ?aL ?_
            case aL => have := HAL.out; omega
            intro v3 w3 hR3 hb3 hg3 hat3
            have HR3 := Aside0.mk (Rd.high HR2.out hb3 (by have := HGT.out; omega))
            have HT3 := Aside0.mk ((hb3.block T (by have := HGT.out; omega)).trans HT2.out)
            have HZ3 := Aside0.mk ((hb3.block N (by have := HGT.out; omega)).trans HZ2.out)
            have HV3 := Aside0.mk hR3
            have HS3 := Aside0.mk (Nat.le_trans HS2.out hb3.size)
            have HB3 := Aside0.mk (show Below N w w3 from below_trans HB2.out (below_less hb3 (by have := HGT.out; omega)))
            have k3 := (blk_cell HT3.out 2).trans rfl
            have f3 := blk_frozen HT3.out 2
            obtain ⟨A3, c3, rfl, hc3, hC3⟩ := Kd.R_reads hR3
            clear hR3 hb3 hg3 hat3 hc3 hC3
            generalize (acc ++ [(⟨rdS 1 bs 0, rdS 2 (rdB 1 bs 0) (rdE 1 bs 0)⟩ : S27)]).length = n3 at HV3 ⊢
            refine hK _ _ ?_
            clear hK K
            refine wpAny_take (i := 9) (v := ?_) rfl (by kernel_rfl) (by kernel_rfl) (by kernel_rfl) (fun _ _ _ h => h) (Or.inl ⟨by rfl, ?_⟩) ?_
            rotate_left 1
            · intro w; first | (go_simp; done) | (go_simp; with_reducible rfl)
            refine wpAny_ready (rs := [10]) (by kernel_rfl) (by simp) ?_
            refine AllReady.cons rfl (fun K hK => ?_) AllReady.nil
            go_simp
            refine hK _ _ ?_
            clear hK K
            refine wpAny_done (by kernel_rfl) ?_ _
            try go_simp
            have hk4 : Keeps (fun k => k = T) w3 (w3.setCell ⟨T, 2, none⟩ (.slice A3 n3 c3)) := (Keeps.refl (fun k => k = T) _).set (p := ⟨T, 2, none⟩) (Or.inl rfl) _
            have HR4 := Aside0.mk (Rd.far HR3.out hk4 (fun k hk => by subst hk; exact ⟨ans_nobyte HT3.out HVL.out, by have := HGT.out; omega⟩))
            have HT4 := Aside0.mk (blk_put (cs' := #[.int .i64 E, .string s, .slice A3 n3 c3]) HT3.out 2 (.slice A3 n3 c3) rfl)
            have HZ4 := Aside0.mk (hk4.blk HZ3.out (by have := HGT.out; omega))
            have HV4 := Aside0.mk (R_keeps HV3.out hk4 (by have := HGT.out; omega))
            have HB4 := Aside0.mk (below_setB (p := ⟨T, 2, none⟩) HB3.out (by have := HGT.out; show N ≤ T; omega) (.slice A3 n3 c3))
            clear hk4
            go_wp2_with fail
            go_roundg (nP b - i)
            case measure => have := HI.out; omega
            case rel => exact ⟨i + 1, _, _, _, acc ++ [⟨rdS 1 bs 0, rdS 2 (rdB 1 bs 0) (rdE 1 bs 0)⟩], by simp, ⟨by omega, by have := HI.out; omega, by rw [List.length_append, List.length_singleton]; have := HI.out; omega⟩, HR4, HY2, HT4, ⟨by rw [HSTEP.out]⟩, HV4, ⟨by simpa [World.setCell] using HS3.out⟩, HZ4, HB4⟩
          refine AllReady.cons rfl (fun K hK => ?_) AllReady.nil
          go_simp
          refine (rshort_calls HR0.out HY.out).mono ?_
          rintro en w1 ⟨rfl, hr, hk⟩
          have HR1 := Aside0.mk hr
          have HT1 := Aside0.mk (hk.blk HT0.out (by have := HGT.out; omega))
          have HV1 := Aside0.mk (R_keeps HV0.out hk (by have := HGT.out; omega))
          have HZ1 := Aside0.mk (hk.blk HZ0.out (by have := HGT.out; omega))
          have HS1 := Aside0.mk (Nat.le_trans HS0.out hk.size)
          have HB1 := Aside0.mk (Keeps.below_then HB0.out (by have := HN.out; omega) hk (fun j hj => by have h1 : j = g := hj; have := HGT.out; omega))
          have k2 := (blk_cell HT1.out 2).trans rfl
          clear hr hk
          refine hK _ _ ?_
          clear hK K
          refine wpAny_ready (rs := [1, 5]) (by kernel_rfl) (by simp) ?_
          refine AllReady.cons rfl (fun K hK => ?_) ?_
          · skip
            try have k2 := (blk_cell (blk_below HT2.out (below_alloc (Below.refl _ _) (.cells #[.string (rdS 1 bs 0), .string (rdS 2 (rdB 1 bs 0) (rdE 1 bs 0))] 27))) 2).trans rfl
            go_simp
            refine hK _ _ ?_
            clear hK K
            refine wpAny_ready (rs := [5]) (by kernel_rfl) (by simp) ?_
            refine AllReady.cons rfl (fun K hK => ?_) AllReady.nil
            go_simp
            refine (rlong_calls HR1.out HY1.out).mono ?_
            rintro en w2 ⟨rfl, hr, hk⟩
            have HR2 := Aside0.mk hr
            have HT2 := Aside0.mk (hk.blk HT1.out (by have := HGT.out; omega))
            have HV2 := Aside0.mk (R_keeps HV1.out hk (by have := HGT.out; omega))
            have HZ2 := Aside0.mk (hk.blk HZ1.out (by have := HGT.out; omega))
            have HS2 := Aside0.mk (Nat.le_trans HS1.out hk.size)
            have HB2 := Aside0.mk (Keeps.below_then HB1.out (by have := HN.out; omega) hk (fun j hj => by have h1 : j = g := hj; have := HGT.out; omega))
            have k2 := (blk_cell HT2.out 2).trans rfl
            clear hr hk
            refine hK _ _ ?_
            clear hK K
            refine wpAny_take (i := 6) (v := ?_) rfl (by kernel_rfl) (by kernel_rfl) (by kernel_rfl) (fun _ _ _ h => h) (Or.inl ⟨by rfl, ?_⟩) ?_
            rotate_left 1
            · intro w; first | (go_simp; done) | (go_simp; with_reducible rfl)
            refine wpAny_ready (rs := [7]) (by kernel_rfl) (by simp) ?_
            refine AllReady.cons rfl (fun K hK => ?_) AllReady.nil
            go_simp
            refine hK _ _ ?_
            clear hK K
            refine wpAny_ready (rs := [8]) (by kernel_rfl) (by simp) ?_
            refine AllReady.cons rfl (fun K hK => ?_) AllReady.nil
            refine Kd.R_append_step k27 (w0 := w2) B (by rfl) (.tmp 27) (.tmp 33) 23 27 (.agg #[.string ⟨#[]⟩, .string ⟨#[]⟩]) 32 rfl Try.underlying23 info_pair rfl (by decide) (by decide) vl acc ⟨rdS 1 bs 0, rdS 2 (rdB 1 bs 0) (rdE 1 bs 0)⟩ [.string (rdS 1 bs 0), .string (rdS 2 (rdB 1 bs 0) (rdE 1 bs 0))] (fun _ => True) (fun _ => False) rfl rfl (k27_mkM _ _ _ _) (fun _ hk => hk.elim) (fun _ _ => trivial) HV2.out (Below.refl _ _) HS2.out ?aL ?_
            case aL => have := HAL.out; omega
            intro v3 w3 hR3 hb3 hg3 hat3
            have HR3 := Aside0.mk (Rd.high HR2.out hb3 (by have := HGT.out; omega))
            have HT3 := Aside0.mk ((hb3.block T (by have := HGT.out; omega)).trans HT2.out)
            have HZ3 := Aside0.mk ((hb3.block N (by have := HGT.out; omega)).trans HZ2.out)
            have HV3 := Aside0.mk hR3
            have HS3 := Aside0.mk (Nat.le_trans HS2.out hb3.size)
            have HB3 := Aside0.mk (show Below N w w3 from below_trans HB2.out (below_less hb3 (by have := HGT.out; omega)))
            have k3 := (blk_cell HT3.out 2).trans rfl
            have f3 := blk_frozen HT3.out 2
            obtain ⟨A3, c3, rfl, hc3, hC3⟩ := Kd.R_reads hR3
            clear hR3 hb3 hg3 hat3 hc3 hC3
            generalize (acc ++ [(⟨rdS 1 bs 0, rdS 2 (rdB 1 bs 0) (rdE 1 bs 0)⟩ : S27)]).length = n3 at HV3 ⊢
            refine hK _ _ ?_
            clear hK K
            refine wpAny_take (i := 9) (v := ?_) rfl (by kernel_rfl) (by kernel_rfl) (by kernel_rfl) (fun _ _ _ h => h) (Or.inl ⟨by rfl, ?_⟩) ?_
            rotate_left 1
            · intro w; first | (go_simp; done) | (go_simp; with_reducible rfl)
            refine wpAny_ready (rs := [10]) (by kernel_rfl) (by simp) ?_
            refine AllReady.cons rfl (fun K hK => ?_) AllReady.nil
            go_simp
            refine hK _ _ ?_
            clear hK K
            refine wpAny_done (by kernel_rfl) ?_ _
            try go_simp
            have hk4 : Keeps (fun k => k = T) w3 (w3.setCell ⟨T, 2, none⟩ (.slice A3 n3 c3)) := (Keeps.refl (fun k => k = T) _).set (p := ⟨T, 2, none⟩) (Or.inl rfl) _
            have HR4 := Aside0.mk (Rd.far HR3.out hk4 (fun k hk => by subst hk; exact ⟨ans_nobyte HT3.out HVL.out, by have := HGT.out; omega⟩))
            have HT4 := Aside0.mk (blk_put (cs' := #[.int .i64 E, .string s, .slice A3 n3 c3]) HT3.out 2 (.slice A3 n3 c3) rfl)
            have HZ4 := Aside0.mk (hk4.blk HZ3.out (by have := HGT.out; omega))
            have HV4 := Aside0.mk (R_keeps HV3.out hk4 (by have := HGT.out; omega))
            have HB4 := Aside0.mk (below_setB (p := ⟨T, 2, none⟩) HB3.out (by have := HGT.out; show N ≤ T; omega) (.slice A3 n3 c3))
            clear hk4
            go_wp2_with fail
            go_roundg (nP b - i)
            case measure => have := HI.out; omega
            case rel => exact ⟨i + 1, _, _, _, acc ++ [⟨rdS 1 bs 0, rdS 2 (rdB 1 bs 0) (rdE 1 bs 0)⟩], by simp, ⟨by omega, by have := HI.out; omega, by rw [List.length_append, List.length_singleton]; have := HI.out; omega⟩, HR4, HY2, HT4, ⟨by rw [HSTEP.out]⟩, HV4, ⟨by simpa [World.setCell] using HS3.out⟩, HZ4, HB4⟩
          refine AllReady.cons rfl (fun K hK => ?_) AllReady.nil
          go_simp
          refine (rlong_calls HR1.out HY1.out).mono ?_
          rintro en w2 ⟨rfl, hr, hk⟩
          have HR2 := Aside0.mk hr
          have HT2 := Aside0.mk (hk.blk HT1.out (by have := HGT.out; omega))
          have HV2 := Aside0.mk (R_keeps HV1.out hk (by have := HGT.out; omega))
          have HZ2 := Aside0.mk (hk.blk HZ1.out (by have := HGT.out; omega))
          have HS2 := Aside0.mk (Nat.le_trans HS1.out hk.size)
          have HB2 := Aside0.mk (Keeps.below_then HB1.out (by have := HN.out; omega) hk (fun j hj => by have h1 : j = g := hj; have := HGT.out; omega))
          have k2 := (blk_cell HT2.out 2).trans rfl
          clear hr hk
          refine hK _ _ ?_
          clear hK K
          refine wpAny_take (i := 6) (v := ?_) rfl (by kernel_rfl) (by kernel_rfl) (by kernel_rfl) (fun _ _ _ h => h) (Or.inl ⟨by rfl, ?_⟩) ?_
          rotate_left 1
          · intro w; first | (go_simp; done) | (go_simp; with_reducible rfl)
          refine wpAny_ready (rs := [1, 7]) (by kernel_rfl) (by simp) ?_
          refine AllReady.cons rfl (fun K hK => ?_) ?_
          · skip
            try have k2 := (blk_cell (blk_below HT2.out (below_alloc (Below.refl _ _) (.cells #[.string (rdS 1 bs 0), .string (rdS 2 (rdB 1 bs 0) (rdE 1 bs 0))] 27))) 2).trans rfl
            go_simp
            refine hK _ _ ?_
            clear hK K
            refine wpAny_ready (rs := [7]) (by kernel_rfl) (by simp) ?_
            refine AllReady.cons rfl (fun K hK => ?_) AllReady.nil
            go_simp
            refine hK _ _ ?_
            clear hK K
            refine wpAny_ready (rs := [8]) (by kernel_rfl) (by simp) ?_
            refine AllReady.cons rfl (fun K hK => ?_) AllReady.nil
            refine Kd.R_append_step k27 (w0 := w2) B (by rfl) (.tmp 27) (.tmp 33) 23 27 (.agg #[.string ⟨#[]⟩, .string ⟨#[]⟩]) 32 rfl Try.underlying23 info_pair rfl (by decide) (by decide) vl acc ⟨rdS 1 bs 0, rdS 2 (rdB 1 bs 0) (rdE 1 bs 0)⟩ [.string (rdS 1 bs 0), .string (rdS 2 (rdB 1 bs 0) (rdE 1 bs 0))] (fun _ => True) (fun _ => False) rfl rfl (k27_mkM _ _ _ _) (fun _ hk => hk.elim) (fun _ _ => trivial) HV2.out (Below.refl _ _) HS2.out ?aL ?_
            case aL => have := HAL.out; omega
            intro v3 w3 hR3 hb3 hg3 hat3
            have HR3 := Aside0.mk (Rd.high HR2.out hb3 (by have := HGT.out; omega))
            have HT3 := Aside0.mk ((hb3.block T (by have := HGT.out; omega)).trans HT2.out)
            have HZ3 := Aside0.mk ((hb3.block N (by have := HGT.out; omega)).trans HZ2.out)
            have HV3 := Aside0.mk hR3
            have HS3 := Aside0.mk (Nat.le_trans HS2.out hb3.size)
            have HB3 := Aside0.mk (show Below N w w3 from below_trans HB2.out (below_less hb3 (by have := HGT.out; omega)))
            have k3 := (blk_cell HT3.out 2).trans rfl
            have f3 := blk_frozen HT3.out 2
            obtain ⟨A3, c3, rfl, hc3, hC3⟩ := Kd.R_reads hR3
            clear hR3 hb3 hg3 hat3 hc3 hC3
            generalize (acc ++ [(⟨rdS 1 bs 0, rdS 2 (rdB 1 bs 0) (rdE 1 bs 0)⟩ : S27)]).length = n3 at HV3 ⊢
            refine hK _ _ ?_
            clear hK K
            refine wpAny_take (i := 9) (v := ?_) rfl (by kernel_rfl) (by kernel_rfl) (by kernel_rfl) (fun _ _ _ h => h) (Or.inl ⟨by rfl, ?_⟩) ?_
            rotate_left 1
            · intro w; first | (go_simp; done) | (go_simp; with_reducible rfl)
            refine wpAny_ready (rs := [10]) (by kernel_rfl) (by simp) ?_
            refine AllReady.cons rfl (fun K hK => ?_) AllReady.nil
            go_simp
            refine hK _ _ ?_
            clear hK K
            refine wpAny_done (by kernel_rfl) ?_ _
            try go_simp
            have hk4 : Keeps (fun k => k = T) w3 (w3.setCell ⟨T, 2, none⟩ (.slice A3 n3 c3)) := (Keeps.refl (fun k => k = T) _).set (p := ⟨T, 2, none⟩) (Or.inl rfl) _
            have HR4 := Aside0.mk (Rd.far HR3.out hk4 (fun k hk => by subst hk; exact ⟨ans_nobyte HT3.out HVL.out, by have := HGT.out; omega⟩))
            have HT4 := Aside0.mk (blk_put (cs' := #[.int .i64 E, .string s, .slice A3 n3 c3]) HT3.out 2 (.slice A3 n3 c3) rfl)
            have HZ4 := Aside0.mk (hk4.blk HZ3.out (by have := HGT.out; omega))
            have HV4 := Aside0.mk (R_keeps HV3.out hk4 (by have := HGT.out; omega))
            have HB4 := Aside0.mk (below_setB (p := ⟨T, 2, none⟩) HB3.out (by have := HGT.out; show N ≤ T; omega) (.slice A3 n3 c3))
            clear hk4
            go_wp2_with fail
            go_roundg (nP b - i)
            case measure => have := HI.out; omega
            case rel => exact ⟨i + 1, _, _, _, acc ++ [⟨rdS 1 bs 0, rdS 2 (rdB 1 bs 0) (rdE 1 bs 0)⟩], by simp, ⟨by omega, by have := HI.out; omega, by rw [List.length_append, List.length_singleton]; have := HI.out; omega⟩, HR4, HY2, HT4, ⟨by rw [HSTEP.out]⟩, HV4, ⟨by simpa [World.setCell] using HS3.out⟩, HZ4, HB4⟩
          refine AllReady.cons rfl (fun K hK => ?_) AllReady.nil
          go_simp
          refine hK _ _ ?_
          clear hK K
          refine wpAny_ready (rs := [1]) (by kernel_rfl) (by simp) ?_
          refine AllReady.cons rfl (fun K hK => ?_) AllReady.nil
          try have k2 := (blk_cell (blk_below HT2.out (below_alloc (Below.refl _ _) (.cells #[.string (rdS 1 bs 0), .string (rdS 2 (rdB 1 bs 0) (rdE 1 bs 0))] 27))) 2).trans rfl
          go_simp
          refine hK _ _ ?_
          clear hK K
          refine wpAny_ready (rs := [8]) (by kernel_rfl) (by simp) ?_
          refine AllReady.cons rfl (fun K hK => ?_) AllReady.nil
          refine Kd.R_append_step k27 (w0 := w2) B (by rfl) (.tmp 27) (.tmp 33) 23 27 (.agg #[.string ⟨#[]⟩, .string ⟨#[]⟩]) 32 rfl Try.underlying23 info_pair rfl (by decide) (by decide) vl acc ⟨rdS 1 bs 0, rdS 2 (rdB 1 bs 0) (rdE 1 bs 0)⟩ [.string (rdS 1 bs 0), .string (rdS 2 (rdB 1 bs 0) (rdE 1 bs 0))] (fun _ => True) (fun _ => False) rfl rfl (k27_mkM _ _ _ _) (fun _ hk => hk.elim) (fun _ _ => trivial) HV2.out (Below.refl _ _) HS2.out ?aL ?_
          case aL => have := HAL.out; omega
          intro v3 w3 hR3 hb3 hg3 hat3
          have HR3 := Aside0.mk (Rd.high HR2.out hb3 (by have := HGT.out; omega))
          have HT3 := Aside0.mk ((hb3.block T (by have := HGT.out; omega)).trans HT2.out)
          have HZ3 := Aside0.mk ((hb3.block N (by have := HGT.out; omega)).trans HZ2.out)
          have HV3 := Aside0.mk hR3
          have HS3 := Aside0.mk (Nat.le_trans HS2.out hb3.size)
          have HB3 := Aside0.mk (show Below N w w3 from below_trans HB2.out (below_less hb3 (by have := HGT.out; omega)))
          have k3 := (blk_cell HT3.out 2).trans rfl
          have f3 := blk_frozen HT3.out 2
          obtain ⟨A3, c3, rfl, hc3, hC3⟩ := Kd.R_reads hR3
          clear hR3 hb3 hg3 hat3 hc3 hC3
          generalize (acc ++ [(⟨rdS 1 bs 0, rdS 2 (rdB 1 bs 0) (rdE 1 bs 0)⟩ : S27)]).length = n3 at HV3 ⊢
          refine hK _ _ ?_
          clear hK K
          refine wpAny_take (i := 9) (v := ?_) rfl (by kernel_rfl) (by kernel_rfl) (by kernel_rfl) (fun _ _ _ h => h) (Or.inl ⟨by rfl, ?_⟩) ?_
          rotate_left 1
          · intro w; first | (go_simp; done) | (go_simp; with_reducible rfl)
          refine wpAny_ready (rs := [10]) (by kernel_rfl) (by simp) ?_
          refine AllReady.cons rfl (fun K hK => ?_) AllReady.nil
          go_simp
          refine hK _ _ ?_
          clear hK K
          refine wpAny_done (by kernel_rfl) ?_ _
          try go_simp
          have hk4 : Keeps (fun k => k = T) w3 (w3.setCell ⟨T, 2, none⟩ (.slice A3 n3 c3)) := (Keeps.refl (fun k => k = T) _).set (p := ⟨T, 2, none⟩) (Or.inl rfl) _
          have HR4 := Aside0.mk (Rd.far HR3.out hk4 (fun k hk => by subst hk; exact ⟨ans_nobyte HT3.out HVL.out, by have := HGT.out; omega⟩))
          have HT4 := Aside0.mk (blk_put (cs' := #[.int .i64 E, .string s, .slice A3 n3 c3]) HT3.out 2 (.slice A3 n3 c3) rfl)
          have HZ4 := Aside0.mk (hk4.blk HZ3.out (by have := HGT.out; omega))
          have HV4 := Aside0.mk (R_keeps HV3.out hk4 (by have := HGT.out; omega))
          have HB4 := Aside0.mk (below_setB (p := ⟨T, 2, none⟩) HB3.out (by have := HGT.out; show N ≤ T; omega) (.slice A3 n3 c3))
          clear hk4
          go_wp2_with fail
          go_roundg (nP b - i)
          case measure => have := HI.out; omega
          case rel => exact ⟨i + 1, _, _, _, acc ++ [⟨rdS 1 bs 0, rdS 2 (rdB 1 bs 0) (rdE 1 bs 0)⟩], by simp, ⟨by omega, by have := HI.out; omega, by rw [List.length_append, List.length_singleton]; have := HI.out; omega⟩, HR4, HY2, HT4, ⟨by rw [HSTEP.out]⟩, HV4, ⟨by simpa [World.setCell] using HS3.out⟩, HZ4, HB4⟩
        · have HNO := Aside0.mk (show ¬ okA b from fun h => by
            have h2 := h.2
            rw [HQ.out, rP_err _ he] at h2
            simp at h2
            exact he h2.2)
          have hne : (e == 0) = false := by simp [he]
          have hee : (if e = 0 then (if bs = [] then (0 : Int) else 6) else e) = e := if_neg he
          go_wp2_with fail
          refine (end_calls HR.out).mono ?_
          rintro en w8 ⟨rfl, rfl⟩
          rw [hee]
          have z0 := (blk_cell HZ.out 0).trans rfl
          have z1 := (blk_cell HZ.out 1).trans rfl
          have z2 := (blk_cell HZ.out 2).trans rfl
          have zf := fun i => blk_frozen HZ.out i
          go_wp2_with fail
          have hfin := three_put HZ.out (.int .i64 0) (.string ⟨#[]⟩) (.slice none 0 0)
          refine bodyPost_ret (results_ct rfl _ _ N 25 #[.int .i64 0, .string ⟨#[]⟩, .slice none 0 0] (0, 0) _ rfl hfin.1 Try.underlying25 rfl (by kernel_rfl)) rfl ⟨fun h => absurd h HNO.out, fun _ => rfl, ?_⟩
          exact Keeps.below_then (by rw [HN.out]; exact HB.out) (Nat.le_refl _) hfin.2 (fun j hj => by have h1 : j = N := hj; have := HN.out; omega)
      · have g3 : decide ((i : Int) < ((nP b : Nat) : Int)) = false := decide_eq_false (by omega)
        obtain rfl : i = nP b := by have := HI.out; omega
        have hq := HQ.out
        rw [Nat.sub_self] at hq
        simp only [rP, List.append_nil] at hq
        go_wp2_with fail
        refine (end_calls HR.out).mono ?_
        rintro en w8 ⟨rfl, rfl⟩
        by_cases hok : e = 0 ∧ bs = []
        · obtain ⟨rfl, rfl⟩ := hok
          have HOK := Aside0.mk (show okA b ∧ (rA b).l = acc from ⟨⟨HLE.out, by rw [hq]⟩, by show (rP (nP b) (b3 b) (e3 b)).1 = acc; rw [hq]⟩)
          rw [if_pos rfl, if_pos rfl]
          obtain ⟨A8, c8, rfl, _, _⟩ := Kd.R_reads HV.out
          generalize acc.length = n8 at HT HV ⊢
          have t0 := (blk_cell HT.out 0).trans rfl
          have t1 := (blk_cell HT.out 1).trans rfl
          have t2 := (blk_cell HT.out 2).trans rfl
          have z0 := (blk_cell HZ.out 0).trans rfl
          have z1 := (blk_cell HZ.out 1).trans rfl
          have z2 := (blk_cell HZ.out 2).trans rfl
          have zf := fun i => blk_frozen HZ.out i
          go_wp2_with fail
          have hfin := three_put HZ.out (.int .i64 E) (.string s) (.slice A8 n8 c8)
          refine bodyPost_ret (results_ct rfl _ _ N 25 #[.int .i64 E, .string s, .slice A8 n8 c8] (0, 0) _ rfl hfin.1 Try.underlying25 rfl (by kernel_rfl)) rfl ⟨fun _ => ⟨.slice A8 n8 c8, by rw [HE.out, HS.out]; rfl, ?_⟩, fun h => absurd HOK.out.1 h, ?_⟩
          · rw [HOK.out.2]
            exact Kd.R_lower (R_keeps HV.out hfin.2 (by have := HGT.out; omega)) (by have := HGT.out; have := HN.out; omega)
          · exact Keeps.below_then (by rw [HN.out]; exact HB.out) (Nat.le_refl _) hfin.2 (fun j hj => by have h1 : j = N := hj; have := HN.out; omega)
        · have HNO := Aside0.mk (show ¬ okA b from fun h => by
            have h2 := h.2
            rw [hq] at h2
            simp at h2
            exact hok ⟨h2.2, h2.1⟩)
          have hee : ∃ ee : Int, (if e = 0 then (if bs = [] then (0 : Int) else 6) else e) = ee ∧ (ee == 0) = false := by
            refine ⟨_, rfl, ?_⟩
            by_cases he : e = 0
            · rw [if_pos he, if_neg (fun h => hok ⟨he, h⟩)]; rfl
            · rw [if_neg he]; simp [he]
          obtain ⟨ee, hee, hne⟩ := hee
          rw [hee]
          clear hok hee
          have z0 := (blk_cell HZ.out 0).trans rfl
          have z1 := (blk_cell HZ.out 1).trans rfl
          have z2 := (blk_cell HZ.out 2).trans rfl
          have zf := fun i => blk_frozen HZ.out i
          go_wp2_with fail
          have hfin := three_put HZ.out (.int .i64 0) (.string ⟨#[]⟩) (.slice none 0 0)
          refine bodyPost_ret (results_ct rfl _ _ N 25 #[.int .i64 0, .string ⟨#[]⟩, .slice none 0 0] (0, 0) _ rfl hfin.1 Try.underlying25 rfl (by kernel_rfl)) rfl ⟨fun h => absurd h HNO.out, fun _ => rfl, ?_⟩
          exact Keeps.below_then (by rw [HN.out]; exact HB.out) (Nat.le_refl _) hfin.2 (fun j hj => by have h1 : j = N := hj; have := HN.out; omega)
end Go.Proofs.Ytfpdapdnmkadeaa.Wire
