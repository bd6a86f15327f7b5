/- The page's example; HeadWrites. -/
import Derived.Test.YtlnndkhnabooeaaHeadEq
namespace Go.Proofs.Ytlnndkhnabooeaa.Head
open Go.RowKit Go.Proofs.YtlnndkhnabooeaaW.PrintWords Go.Proofs.YtlnndkhnabooeaaW.PrintLast Go.Proofs.YtlnndkhnabooeaaW.PrintMore
open Go.Proofs.Ytlnndkhnabooeaa Go.Proofs.Ytlnndkhnabooeaa.Vals Go.Proofs.Ytlnndkhnabooeaa.Word Go.Proofs.Ytlnndkhnabooeaa.Q Go.Proofs.Ytlnndkhnabooeaa.Math
set_option linter.unusedVariables false
set_option linter.unusedSimpArgs false

def ex : Hd := ⟨⟨9, 200, 8, 8, 16, 16, 2, 1⟩, 1, 1⟩
theorem ex_right : ex.right := by unfold Hd.right Cfg.right Cfg.sized Cfg.inner Cfg.outer; decide
theorem ex_typed : ex.typed := by unfold Hd.typed; decide
theorem ex_len : ex.blk.length = 200 := by have := blk_len (x := ex) (by decide); have h : ex.c.bytes = 200 := rfl; omega
theorem ex_front : ex.blk.take 8 = nameB := by
  obtain ⟨r, hr⟩ := blk_front ex
  rw [hr]
  unfold Hd.front
  rw [List.append_assoc]
  exact List.take_left' rfl
theorem dec_blk {x : Hd} (h : x.right) : decV x.blk = .tuple #[x.v, .int .i64 0] := by
  unfold decV
  rw [if_pos (isHd_blk h), hdOf_blk h]
theorem dec_zeros : decV (List.replicate 200 0) = .tuple #[noHd, .int .i64 12] := by
  unfold decV
  refine if_neg (fun h => ?_)
  have h1 : 1 ≤ (hdOf (List.replicate 200 0)).root := h.2.1.2.1
  have h2 : (hdOf (List.replicate 200 0)).root = 0 := by
    show at4 (List.replicate 200 0) 8 = 0
    decide
  omega

set_option maxHeartbeats 4000000 in
set_option maxRecDepth 100000 in
theorem awake_calls (w : World) : Calls Try.prog 10 #[] w fun e w' => e = .returned (.bool true) ∧ Below w.heap.size w w' := by
  have HZ := Aside0.mk (blk_new w (.cells #[.int .i64 9, .int .i64 200, .int .i64 8, .int .i64 8, .int .i64 16, .int .i64 16, .int .i64 2, .int .i64 1] 23))
  have HB := Aside0.mk (below_alloc (Below.refl w.heap.size w) (.cells #[.int .i64 9, .int .i64 200, .int .i64 8, .int .i64 8, .int .i64 16, .int .i64 16, .int .i64 2, .int .i64 1] 23))
  go_enter Try.func10, Try.ntmps10
  go_wp2_with fail
  refine (enc_ok ex ex_typed ex_right _).mono ?_
  rintro en w1 ⟨v1, rfl, hR, hb⟩
  obtain ⟨A1, c1, rfl, hc1, hC1⟩ := Kd.R_reads hR
  rw [ex_len] at hc1 hC1 ⊢
  have HC1 := Aside0.mk (And.intro hc1 hC1)
  have HBY := Aside0.mk (show Bys ex.blk (.slice A1 200 c1) w1 from ⟨A1, c1, by rw [ex_len], by rw [ex_len]; exact hc1, by rw [ex_len]; exact hC1⟩)
  have HZ1 := Aside0.mk (blk_below HZ.out hb)
  have HB1 := Aside0.mk (below_step HB.out hb)
  clear hR hb hc1 hC1 HZ HB
  go_wp2_with fail
  refine (dec_calls HBY.out (by_blk ex) (by rw [ex_len]; decide)).mono ?_
  rw [dec_blk ex_right]
  rintro en w2 ⟨rfl, hb⟩
  unfold Hd.v ex
  have HZ2 := Aside0.mk (blk_below HZ1.out hb)
  have HB2 := Aside0.mk (below_step HB1.out hb)
  have HBY2 := Aside0.mk (HBY.out.mono hb)
  clear hb HZ1 HB1 HBY HC1
  simp only
  go_wp2_with (first | (guard_target = wpList _ _ _ (Oper.mk _ (Op.makeSlice _ _ _) _ _ _ _ :: _) _ _; refine Aside0.out ?_))
  refine Aside0.mk ?_
  have HH := Aside0.mk (blk_new w2 (.cells #[.int .i64 9, .int .i64 200, .int .i64 8, .int .i64 8, .int .i64 16, .int .i64 16, .int .i64 2, .int .i64 1, .int .u32 1, .int .i64 1] 26))
  have HZ3 := Aside0.mk (blk_below HZ2.out (below_alloc (Below.refl _ _) (.cells #[.int .i64 9, .int .i64 200, .int .i64 8, .int .i64 8, .int .i64 16, .int .i64 16, .int .i64 2, .int .i64 1, .int .u32 1, .int .i64 1] 26)))
  have HB3 := Aside0.mk (below_alloc HB2.out (.cells #[.int .i64 9, .int .i64 200, .int .i64 8, .int .i64 8, .int .i64 16, .int .i64 16, .int .i64 2, .int .i64 1, .int .u32 1, .int .i64 1] 26))
  have HBY3 := Aside0.mk (HBY2.out.mono (below_alloc (Below.refl _ _) (.cells #[.int .i64 9, .int .i64 200, .int .i64 8, .int .i64 8, .int .i64 16, .int .i64 16, .int .i64 2, .int .i64 1, .int .u32 1, .int .i64 1] 26)))
  clear HZ2 HB2 HBY2
  generalize w2.alloc (.cells #[.int .i64 9, .int .i64 200, .int .i64 8, .int .i64 8, .int .i64 16, .int .i64 16, .int .i64 2, .int .i64 1, .int .u32 1, .int .i64 1] 26) = w3 at HH HZ3 HB3 HBY3 ⊢
  generalize w2.heap.size = H at HH ⊢
  refine Kd.R_make (Kd.int .u8) (w0 := w3) w3.heap.size 5 rfl rfl 27 (.const (.int .i64 200)) (.const (.int .i64 200)) rfl 200 rfl rfl Try.underlying27 (.int .u8 0) 1 info_byte rfl (by decide) (by decide) 0 (ok := fun _ => True) (okp := fun _ => True) rfl (fun _ h => h) trivial (by decide) (by decide) (Below.refl _ _) (Nat.le_refl _) ?_
  intro v4 w4 hR hb hg hat
  have HO4 := Aside0.mk (show Bys (List.replicate 200 0) v4 w4 from Kd.R_reads hR)
  have HH4 := Aside0.mk (blk_below HH.out hb)
  have HZ4 := Aside0.mk (blk_below HZ3.out hb)
  have HB4 := Aside0.mk (below_step HB3.out hb)
  have HBY4 := Aside0.mk (HBY3.out.mono hb)
  clear hR hb hg hat HH HZ3 HB3 HBY3
  go_wp2_with fail
  refine (dec_calls HO4.out (by_zeros 200) (by rw [List.length_replicate]; decide)).mono ?_
  rw [dec_zeros]
  rintro en w5 ⟨rfl, hb⟩
  unfold noHd
  have HH5 := Aside0.mk (blk_below HH4.out hb)
  have HZ5 := Aside0.mk (blk_below HZ4.out hb)
  have HB5 := Aside0.mk (below_step HB4.out hb)
  have hcut : (∀ W, (Instr.slice 27 (.slice A1 200 c1) none (some (.int .i64 8)) none).run Try.prog W = .ok (.slice A1 8 c1) W) ∧ Bys nameB (.slice A1 8 c1) w5 := by
    obtain ⟨A, c, he, hc, hC⟩ := HBY4.out.mono hb
    simp only [Value.slice.injEq] at he
    obtain ⟨rfl, he2, rfl⟩ := he
    obtain ⟨g1, g2, _⟩ := cut_bytes (m := 8) hC hc (by rw [ex_len]; decide)
    rw [ex_len] at g1
    rw [ex_front] at g2
    exact ⟨g1, g2⟩
  have hct := hcut.1
  have HCN0 := Aside0.mk hcut.2
  clear hb hcut HH4 HZ4 HB4 HBY4 HO4
  simp only
  go_upto_region 5 with fail
  have HCN := Aside0.mk (HCN0.out.mono (below_alloc (Below.refl _ _) (.cells #[.int .i64 0, .int .i64 0, .int .i64 0, .int .i64 0, .int .i64 0, .int .i64 0, .int .i64 0, .int .i64 0, .int .u32 0, .int .i64 0] 26)))
  have HH6 := Aside0.mk (blk_below HH5.out (below_alloc (Below.refl _ _) (.cells #[.int .i64 0, .int .i64 0, .int .i64 0, .int .i64 0, .int .i64 0, .int .i64 0, .int .i64 0, .int .i64 0, .int .u32 0, .int .i64 0] 26)))
  have HZ6 := Aside0.mk (blk_below HZ5.out (below_alloc (Below.refl _ _) (.cells #[.int .i64 0, .int .i64 0, .int .i64 0, .int .i64 0, .int .i64 0, .int .i64 0, .int .i64 0, .int .i64 0, .int .u32 0, .int .i64 0] 26)))
  have HB6 := Aside0.mk (below_alloc HB5.out (.cells #[.int .i64 0, .int .i64 0, .int .i64 0, .int .i64 0, .int .i64 0, .int .i64 0, .int .i64 0, .int .i64 0, .int .u32 0, .int .i64 0] 26))
  clear HCN0 HH5 HZ5 HB5
  generalize w5.alloc (.cells #[.int .i64 0, .int .i64 0, .int .i64 0, .int .i64 0, .int .i64 0, .int .i64 0, .int .i64 0, .int .i64 0, .int .u32 0, .int .i64 0] 26) = w6 at HCN HH6 HZ6 HB6 ⊢
  have k8 := (blk_cell HH6.out 8).trans rfl
  have h0 := (blk_cell HH6.out 0).trans rfl
  have h1 := (blk_cell HH6.out 1).trans rfl
  have h2 := (blk_cell HH6.out 2).trans rfl
  have h3 := (blk_cell HH6.out 3).trans rfl
  have h4 := (blk_cell HH6.out 4).trans rfl
  have h5 := (blk_cell HH6.out 5).trans rfl
  have h6 := (blk_cell HH6.out 6).trans rfl
  have h7 := (blk_cell HH6.out 7).trans rfl
  have z0 := (blk_cell HZ6.out 0).trans rfl
  have z1 := (blk_cell HZ6.out 1).trans rfl
  have z2 := (blk_cell HZ6.out 2).trans rfl
  have z3 := (blk_cell HZ6.out 3).trans rfl
  have z4 := (blk_cell HZ6.out 4).trans rfl
  have z5 := (blk_cell HZ6.out 5).trans rfl
  have z6 := (blk_cell HZ6.out 6).trans rfl
  have z7 := (blk_cell HZ6.out 7).trans rfl
  have hs := run_str HCN.out
  rw [name_str] at hs
  have he := fun d W => eqA23 d W 9 200 8 8 16 16 2 1 9 200 8 8 16 16 2 1
  go_wp2_with fail
  go_ret
  exact ⟨by simp, HB6.out⟩
end Go.Proofs.Ytlnndkhnabooeaa.Head
