/- The page's examples. -/
import Derived.Test.YtfpdapdnmkadeaaWireG
namespace Go.Proofs.Ytfpdapdnmkadeaa.Wire
open Go.RowKit Go.Proofs.YtfpdapdnmkadeaaW.PrintWords Go.Proofs.YtfpdapdnmkadeaaW.PrintLast Go.Proofs.YtfpdapdnmkadeaaW.PrintMore
open Go.Proofs.Ytfpdapdnmkadeaa Go.Proofs.Ytfpdapdnmkadeaa.Vals Go.Proofs.Ytfpdapdnmkadeaa.Word Go.Proofs.Ytfpdapdnmkadeaa.Q
set_option linter.unusedVariables false
set_option linter.unusedSimpArgs false

def sa : ByteArray := ⟨#[97]⟩
def gB (i : Nat) : List Int := if i = 0 then be 4 1 else tB 1 255 sa (be 4 1 ++ be 1 3)
set_option maxHeartbeats 4000000 in
theorem one_calls {w : World} {B g L : Nat} {v : Value} (h : Wr w B g v [] false) (hL : w.heap[L]? = some (.cells #[.int .i64 3, .string sa, .string ⟨#[]⟩, .int .i64 0] 52 (0, 0))) (hg : L ≠ g) :
    Calls Try.prog 35 #[.pointer (some ⟨g, 0, none⟩), .slice (some ⟨L, 0, none⟩) 1 1, .func (.func 36) #[.pointer (some ⟨g, 0, none⟩)] #[]] w (WPost w B g (gB 1) false) := by
  have HNC := Aside0.mk (num_calls h (by simp) (n := 4) (by decide) (x := 1) (by decide))
  have HL := Aside0.mk hL
  have HG := Aside0.mk hg
  clear h hL hg
  go_enter Try.func35, Try.ntmps35
  go_wp2_with fail
  refine HNC.out.mono ?_
  rintro en w1 ⟨⟨u, rfl⟩, ⟨v1, hw1⟩, hb1, hf1⟩
  rw [List.nil_append] at hw1
  have HW1 := Aside0.mk (show Wr w1 B g v1 (gB 0) false from hw1)
  have HB1 := Aside0.mk hb1
  have HF1 := Aside0.mk hf1
  have HL1 := Aside0.mk (hf1 L _ _ HL.out (by decide) HG.out)
  clear hw1 hb1 hf1 HNC HL
  go_wp2_with fail
  go_loopg [15] 2 (fun kq v15 wx => ∃ (i : Nat) (v : Value), v15 = .int .i64 (i : Int) ∧ Aside0 (kq = 2 - i ∧ i ≤ 1) ∧ Aside0 (Wr wx B g v (gB i) false) ∧ Aside0 (Below B w wx) ∧ Aside0 (Fr g w wx) ∧ Aside0 (wx.heap[L]? = some (.cells #[.int .i64 3, .string sa, .string ⟨#[]⟩, .int .i64 0] 52 (0, 0))))
  case atStart => exact ⟨0, v1, rfl, ⟨rfl, by omega⟩, HW1, HB1, HF1, HL1⟩
  case round =>
    clear HW1 HB1 HF1 HL1
    obtain ⟨i, v2, rfl, HI, HW, HB, HF, HL⟩ := hrel
    by_cases hi : i < 1
    · obtain rfl : i = 0 := by omega
      have c0 := (blk_cell HL.out 0).trans rfl
      have c1 := (blk_cell HL.out 1).trans rfl
      have c2 := (blk_cell HL.out 2).trans rfl
      have c3 := (blk_cell HL.out 3).trans rfl
      go_upto_region 4 with fail
      clear c0 c1 c2 c3
      have HZ := Aside0.mk (blk_new wr (.cells #[.int .i64 3, .string sa, .string ⟨#[]⟩, .int .i64 0] 52))
      have HB4 := Aside0.mk (below_trans HB.out (below_low (below_alloc (Below.refl wr.heap.size wr) (.cells #[.int .i64 3, .string sa, .string ⟨#[]⟩, .int .i64 0] 52)) HW.out.low))
      have HF4 := Aside0.mk (HF.out.trans (Fr.below g (below_alloc (Below.refl wr.heap.size wr) (.cells #[.int .i64 3, .string sa, .string ⟨#[]⟩, .int .i64 0] 52))))
      have HW4 := Aside0.mk (HW.out.below (below_alloc (Below.refl _ _) (.cells #[.int .i64 3, .string sa, .string ⟨#[]⟩, .int .i64 0] 52)))
      have HL4 := Aside0.mk (blk_below HL.out (below_alloc (Below.refl _ _) (.cells #[.int .i64 3, .string sa, .string ⟨#[]⟩, .int .i64 0] 52)))
      clear HB HF HW HL
      generalize wr.alloc (.cells #[.int .i64 3, .string sa, .string ⟨#[]⟩, .int .i64 0] 52) = w4 at HZ HB4 HF4 HW4 HL4 ⊢
      generalize wr.heap.size = S at HZ ⊢
      have k0 := (blk_cell HZ.out 0).trans rfl
      have k1 := (blk_cell HZ.out 1).trans rfl
      have k2 := (blk_cell HZ.out 2).trans rfl
      have k3 := (blk_cell HZ.out 3).trans rfl
      go_wp2_with fail
      clear k0 k1 k2 k3
      refine (get_calls HW4.out (by decide) sa (by decide)).mono ?_
      rintro en w5 ⟨⟨u5, rfl⟩, ⟨v5, hw⟩, hb, hf⟩
      have HW5 := Aside0.mk (show Wr w5 B g v5 (gB 1) false from hw)
      have HB5 := Aside0.mk (below_trans HB4.out hb)
      have HF5 := Aside0.mk (HF4.out.trans hf)
      have HL5 := Aside0.mk (hf L _ _ HL4.out (by decide) HG.out)
      clear hw hb hf HW4 HB4 HF4 HZ HL4
      go_wp2_with fail
      go_roundg 1
      case measure => have := HI.out; omega
      case rel => exact ⟨1, v5, by simp, ⟨by omega, by omega⟩, HW5, HB5, HF5, HL5⟩
    · obtain rfl : i = 1 := by have := HI.out; omega
      go_wp2_with fail
      exact bodyPost_end (results_none rfl _ _ _) rfl ⟨⟨_, rfl⟩, ⟨_, HW.out⟩, HB.out, HF.out⟩

theorem script_one {w : World} {L : Nat} (hL : w.heap[L]? = some (.cells #[.int .i64 3, .string sa, .string ⟨#[]⟩, .int .i64 0] 52 (0, 0))) :
    Calls Try.prog 16 #[.slice (some ⟨L, 0, none⟩) 1 1] w fun e w' => (∃ v, e = .returned (.tuple #[v, .int .i64 0]) ∧ Bys [0, 0, 0, 1, 3, 1, 97] v w') ∧ Below w.heap.size w w' := by
  have HW := Aside0.mk (show Wr (w.alloc (.cells #[.slice none 0 0, .bool false] 55)) w.heap.size w.heap.size (.slice none 0 0) [] false from ⟨blk_new w _, Kd.R_nil _ _ _ _ _, Nat.le_refl _⟩)
  have HB := Aside0.mk (below_alloc (Below.refl w.heap.size w) (.cells #[.slice none 0 0, .bool false] 55))
  have HL := Aside0.mk (blk_below hL (below_alloc (Below.refl _ _) (.cells #[.slice none 0 0, .bool false] 55)))
  have HG := Aside0.mk (show L ≠ w.heap.size from Nat.ne_of_lt (blk_lt hL))
  clear hL
  go_enter Try.func16, Try.ntmps16
  go_upto_region 4 with fail
  generalize w.alloc (.cells #[.slice none 0 0, .bool false] 55) = w1 at HW HB HL ⊢
  obtain ⟨g, hg⟩ : ∃ g, w.heap.size = g := ⟨_, rfl⟩
  have HGG := Aside0.mk hg
  rw [hg] at HW HG
  try rw [hg]
  clear hg
  go_wp2_with fail
  refine (one_calls HW.out HL.out HG.out).mono ?_
  rintro en w2 ⟨⟨u, rfl⟩, ⟨v2, hw⟩, hb, hf⟩
  have HW2 := Aside0.mk hw
  have HB2 := Aside0.mk (show Below w.heap.size w w2 from below_trans HB.out (by rw [HGG.out]; exact hb))
  have k1 := (blk_cell hw.ex 1).trans rfl
  have k0 := (blk_cell hw.ex 0).trans rfl
  clear hw hb hf
  go_wp2_with fail
  go_ret2
  exact ⟨⟨v2, by simp, by have h1 := Kd.R_reads HW2.out.row; rw [show gB 1 = [0, 0, 0, 1, 3, 1, 97] by decide] at h1; exact h1⟩, HB2.out⟩

set_option maxHeartbeats 4000000 in
theorem awake_calls (w : World) : Calls Try.prog 8 #[] w fun e w' => e = .returned (.bool true) ∧ Below w.heap.size w w' := by
  have HL := Aside0.mk (blk_new w (.cells #[.int .i64 3, .string sa, .string ⟨#[]⟩, .int .i64 0] 52))
  have HB := Aside0.mk (below_alloc (Below.refl w.heap.size w) (.cells #[.int .i64 3, .string sa, .string ⟨#[]⟩, .int .i64 0] 52))
  have HS := Aside0.mk (script_one HL.out)
  unfold sa at HS HB
  go_enter Try.func8, Try.ntmps8
  go_wp2_with fail
  refine HS.out.mono ?_
  rintro en w1 ⟨⟨v1, rfl, hby⟩, hb⟩
  have HY1 := Aside0.mk hby
  have HB1 := Aside0.mk (below_step HB.out hb)
  clear hby hb HS HB HL
  go_wp2_with fail
  refine (answer_calls 9 ⟨#[]⟩ none 0 [] (by decide) w1 (Kd.C_nil _ _)).mono ?_
  rintro en w2 ⟨v2, z, rfl, _, h2, hb⟩
  obtain ⟨rfl, hR⟩ := h2 (by decide)
  rw [show aB 9 ⟨#[]⟩ [] = [9, 0, 0, 0, 0, 0, 0] by decide] at hR
  have hs1 := run_str (HY1.out.mono hb)
  have hs2 := run_str (Kd.R_reads hR : Bys _ _ _)
  rw [show strOfNums [0, 0, 0, 1, 3, 1, 97] = { data := #[0, 0, 0, 1, 3, 1, 97] } by decide] at hs1
  rw [show strOfNums [9, 0, 0, 0, 0, 0, 0] = { data := #[9, 0, 0, 0, 0, 0, 0] } by decide] at hs2
  have HB2 := Aside0.mk (below_step HB1.out hb)
  clear hb hR h2
  go_wp2_with fail
  go_ret
  exact ⟨by simp, HB2.out⟩
end Go.Proofs.Ytfpdapdnmkadeaa.Wire
