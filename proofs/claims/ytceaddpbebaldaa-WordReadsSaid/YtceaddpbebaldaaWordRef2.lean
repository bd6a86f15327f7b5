/- The reference's readers: Num. -/
import Derived.Test.YtceaddpbebaldaaWordRef
namespace Go.Proofs.Ytceaddpbebaldaa.Word
open Go.RowKit Go.Proofs.YtceaddpbebaldaaW.PrintWords Go.Proofs.YtceaddpbebaldaaW.PrintLast Go.Proofs.YtceaddpbebaldaaW.PrintMore
open Go.Proofs.Ytceaddpbebaldaa Go.Proofs.Ytceaddpbebaldaa.Vals
set_option linter.unusedVariables false
set_option linter.unusedSimpArgs false

def NumPost2 (w : World) (bs : List Int) (e : Int) (x : Int) (en : Ending) (w' : World) : Prop := ∃ v, en = .returned (.tuple #[.agg #[v, .int .i64 e], .int .u64 x]) ∧ Bys bs v w' ∧ Below w.heap.size w w'

theorem rnum_not {w : World} {v : Value} {bs : List Int} (e : Int) (h : Bys bs v w) {n : Int} (hn : ¬ wide n) : Calls Try.prog 16 #[.agg #[v, .int .i64 e], .int .i64 n] w (NumPost2 w [] (spE e 2) 0) := by
  obtain ⟨A, c, rfl, hc, hC⟩ := h
  have HSP := Aside0.mk (fun w1 (hb : Below w.heap.size w w1) => rspoil_calls (w := w1) e 2 (show Bys bs (.slice A bs.length c) w1 from IsL.mk hc (Kd.C_below hC hb)))
  have hr := fun w => rwidth_calls n w
  rw [decide_eq_false hn] at hr
  have HR := Aside0.mk hr
  clear hC hc hr
  go_enter Try.func16, Try.ntmps16
  go_wp2_with fail
  refine (HR.out _).mono ?_
  rintro en w2 ⟨rfl, hb⟩
  have hb2 := below_step (below2 w _ _) hb
  have k0 := (blk_cell (blk_below (two_blk w _ _).1 hb) 0).trans rfl
  have k1 := (blk_cell (blk_below (two_blk w _ _).1 hb) 1).trans rfl
  have H2 := Aside0.mk (blk_below (two_blk w _ _).2 hb)
  have HS := Aside0.mk (HSP.out _ hb2)
  have HB := Aside0.mk hb2
  clear hb hb2
  go_wp2_with fail
  refine HS.out.mono ?_
  rintro en w3 ⟨v3, rfl, ⟨A3, c3, rfl, hc3, hC3⟩, hb⟩
  have H2 := Aside0.mk (blk_below H2.out hb)
  have HI := Aside0.mk (show Bys [] (.slice A3 0 c3) w3 from ⟨A3, c3, rfl, hc3, hC3⟩)
  have HB := Aside0.mk (below_step HB.out hb)
  clear hb hc3 hC3 k0 k1
  rw [List.length_nil]
  have k0 := (blk_cell H2.out 0).trans rfl
  have k1 := (blk_cell H2.out 1).trans rfl
  have f0 := blk_frozen H2.out 0
  have f1 := blk_frozen H2.out 1
  have HW := box_put H2.out (.slice A3 0 c3) (.int .i64 (spE e 2))
  go_wp2_with fail
  refine bodyPost_ret (results_ct rfl _ _ (w.heap.size + 1) 41 #[.slice A3 0 c3, .int .i64 (spE e 2)] (0, 0) _ rfl HW.1 Try.underlying41 rfl (by kernel_rfl)) rfl ⟨_, rfl, IsL.empty HI.out _, ?_⟩
  exact Keeps.below_then HB.out (Nat.le_refl _) HW.2 (fun i hi => by have : i = w.heap.size + 1 := hi; omega)

set_option maxHeartbeats 1000000 in
theorem rnum_wide {w : World} {v : Value} {bs : List Int} (e : Int) (h : Bys bs v w) (hby : Byte bs) {n : Int} (hn : wide n) : Calls Try.prog 16 #[.agg #[v, .int .i64 e], .int .i64 n] w (NumPost2 w (rawB bs e n) (rawE bs e n) (num (rawO bs e n))) := by
  have hl8 : (rawO bs e n).length ≤ 8 := by
    have := rawO_len bs e n
    unfold wide at hn
    omega
  have hbo := hby.rawO e n
  obtain ⟨A, c, rfl, hc, hC⟩ := h
  have HRAW := Aside0.mk (fun w1 (hb : Below w.heap.size w w1) => rraw_calls (w := w1) e (show Bys bs (.slice A bs.length c) w1 from IsL.mk hc (Kd.C_below hC hb)) n)
  have hr := fun w => rwidth_calls n w
  rw [decide_eq_true hn] at hr
  have HR := Aside0.mk hr
  clear hC hc hr hby
  generalize rawO bs e n = out at *
  generalize rawB bs e n = bs' at *
  generalize rawE bs e n = e' at *
  go_enter Try.func16, Try.ntmps16
  go_wp2_with fail
  refine (HR.out _).mono ?_
  rintro en w2 ⟨rfl, hb⟩
  have hb2 := below_step (below2 w _ _) hb
  have H1 := Aside0.mk (blk_below (two_blk w _ _).1 hb)
  have H2 := Aside0.mk (blk_below (two_blk w _ _).2 hb)
  have k0 := (blk_cell H1.out 0).trans rfl
  have k1 := (blk_cell H1.out 1).trans rfl
  have HS := Aside0.mk (HRAW.out _ hb2)
  have HB := Aside0.mk hb2
  clear hb hb2
  go_wp2_with fail
  refine HS.out.mono ?_
  rintro en w3 ⟨v3, v4, rfl, ⟨A3, c3, rfl, hc3, hC3⟩, ⟨A4, c4, rfl, hc4, hC4⟩, hb⟩
  have H1 := Aside0.mk (blk_below H1.out hb)
  have H2 := Aside0.mk (blk_below H2.out hb)
  have HI := Aside0.mk (show Bys bs' (.slice A3 bs'.length c3) w3 from ⟨A3, c3, rfl, hc3, hC3⟩)
  have HO := Aside0.mk (show Bys out (.slice A4 out.length c4) w3 from ⟨A4, c4, rfl, hc4, hC4⟩)
  have HB := Aside0.mk (below_step HB.out hb)
  clear hb hc3 hC3 hc4 hC4 HRAW HS k0 k1
  have k0 := (blk_cell H1.out 0).trans rfl
  have k1 := (blk_cell H1.out 1).trans rfl
  have f0 := blk_frozen H1.out 0
  have f1 := blk_frozen H1.out 1
  have HW := box_put H1.out (.slice A3 bs'.length c3) (.int .i64 e')
  have HN1 := Aside0.mk (NoByte.pair H1.out)
  go_wp2_with fail
  clear k0 k1 f0 f1
  generalize (w3.setCell ⟨w.heap.size, 0, none⟩ (.slice A3 bs'.length c3)).setCell ⟨w.heap.size, 1, none⟩ (.int .i64 e') = w4 at HW ⊢
  obtain ⟨h1, hk⟩ := HW
  have hi := Bys.far HI.out hk (fun k h => by subst h; exact HN1.out)
  have ho := Bys.far HO.out hk (fun k h => by subst h; exact HN1.out)
  have h2 := hk.blk H2.out (show ¬ (w.heap.size + 1 = w.heap.size) by omega)
  have hb := Keeps.below_then HB.out (Nat.le_refl _) hk (fun i hi => by have : i = w.heap.size := hi; omega)
  have H1 := Aside0.mk h1
  have H2 := Aside0.mk h2
  have HI := Aside0.mk hi
  have HB := Aside0.mk hb
  obtain ⟨A5, c5, hv5, hc5, hC5⟩ := ho
  obtain ⟨rfl, rfl⟩ : A4 = A5 ∧ c4 = c5 := by simpa using hv5
  have HC := Aside0.mk hC5
  clear h1 h2 hi hb hk hC5 hv5 HO
  go_loopg [7, 8] (out.length + 1) (fun kq v7 v8 w' => ∃ i : Nat, v8 = .int .i64 (i : Int) ∧ v7 = .int .u64 (num (out.take i)) ∧ Aside0 (kq = out.length - i + 1 ∧ i ≤ out.length) ∧ w' = w4)
  case atStart => exact ⟨0, rfl, by simp [num], ⟨rfl, Nat.zero_le _⟩, rfl⟩
  case round =>
    obtain ⟨i, rfl, rfl, HI0, rfl⟩ := hrel
    by_cases hi : i < out.length
    · have hi' : (i : Int) < (out.length : Int) := by omega
      have d1 : decide ((i : Int) < (out.length : Int)) = true := decide_eq_true hi'
      obtain ⟨ad, rfl, hcell⟩ := Kd.at_int HC.out (i : Int) (by omega) hi'
      rw [Int.toNat_natCast] at hcell
      have hgi := hbo _ (List.getElem_mem hi)
      have hrd : rd out (i : Int) = out[i] := rd_lt hi
      rw [hrd] at hcell
      obtain ⟨y, hy⟩ := Int.eq_ofNat_of_zero_le hgi.1
      rw [hy] at hcell
      have hnl := num_lt (out.take i) (hbo.take i)
      obtain ⟨x, hx⟩ := Int.eq_ofNat_of_zero_le hnl.1
      have hx56 : x < 72057594037927936 := by
        have h2 := hnl.2
        rw [hx, List.length_take, Nat.min_eq_left (Nat.le_of_lt hi)] at h2
        have h3 : (256 : Nat) ^ i ≤ 256 ^ 7 := Nat.pow_le_pow_right (by decide) (by omega)
        have h4 : ((256 : Int) ^ i) = ((256 ^ i : Nat) : Int) := by rw [Int.natCast_pow]; rfl
        rw [h4] at h2
        have h5 : x < 256 ^ i := Int.ofNat_lt.1 h2
        have h6 : (256 : Nat) ^ 7 = 72057594037927936 := by decide
        omega
      have hy8 : y < 256 := by
        have h2 := hgi.2
        rw [hy] at h2
        have h3 : y ≤ 255 := Int.ofNat_le.1 h2
        omega
      have hnext : num (out.take (i + 1)) = 256 * (x : Int) + (y : Int) := by
        rw [List.take_succ_eq_append_getElem hi, num_snoc, hx, hy, Int.mul_comm]
      rw [hx]
      have HN := Aside0.mk hnext
      clear hnext hx hy hrd hgi hnl
      go_wp2_with fail
      go_roundg (out.length - (i + 1) + 1)
      case measure => have := HI0.out; omega
      case rel => exact ⟨i + 1, by simp, by rw [HN.out], ⟨rfl, by omega⟩, rfl⟩
    · have d1 : decide ((i : Int) < (out.length : Int)) = false := decide_eq_false (by omega)
      have hil : i = out.length := by have := HI0.out; omega
      subst hil
      have k0 := (blk_cell H1.out 0).trans rfl
      have k1 := (blk_cell H1.out 1).trans rfl
      have k2 := (blk_cell H2.out 0).trans rfl
      have k3 := (blk_cell H2.out 1).trans rfl
      have f2 := blk_frozen H2.out 0
      have f3 := blk_frozen H2.out 1
      have HW := box_put H2.out (.slice A3 bs'.length c3) (.int .i64 e')
      rw [List.take_length]
      go_wp2_with fail
      refine bodyPost_ret (results_ct rfl _ _ (w.heap.size + 1) 41 #[.slice A3 bs'.length c3, .int .i64 e'] (0, 0) _ rfl HW.1 Try.underlying41 rfl (by kernel_rfl)) rfl ⟨_, rfl, ?_, ?_⟩
      · exact Bys.far HI.out HW.2 (fun k h => by subst h; exact NoByte.pair H2.out)
      · exact Keeps.below_then HB.out (Nat.le_refl _) HW.2 (fun i hi => by have : i = w.heap.size + 1 := hi; omega)
end Go.Proofs.Ytceaddpbebaldaa.Word
