/- ChainNobody: what the law's call comes to. -/
import Derived.Test.YtcncninjnickoaaChainAwake
namespace Go.Proofs.Ytcncninjnickoaa.Chain
open Go.RowKit Go.Proofs.YtcncninjnickoaaW.PrintWords Go.Proofs.YtcncninjnickoaaW.PrintLast Go.Proofs.YtcncninjnickoaaW.PrintMore
open Go.Proofs.Ytcncninjnickoaa Go.Proofs.Ytcncninjnickoaa.Ring Go.Proofs.Ytcncninjnickoaa.Vals
set_option linter.unusedVariables false
set_option linter.unusedSimpArgs false

set_option maxHeartbeats 2000000 in
theorem nobody_calls (i : Int) (w : World) : Calls Try.prog 5 #[.int .i64 i] w fun e w' => e = .returned (.bool true) ∧ Below w.heap.size w w' := by
  go_enter Try.func5, Try.ntmps5
  go_wp2_with fail
  go_loopg [5] 3 (fun kq v5 w' => ∃ k : Nat, v5 = .int .i64 (k : Int) ∧ Aside0 (kq = 3 - k ∧ k ≤ 2) ∧ w' = ((w.alloc (.cells #[.slice none 0 0, .int .i64 0] 46)).alloc (.cells #[.pointer none, .pointer (some ⟨w.heap.size, 0, none⟩)] 23)))
  case atStart => exact ⟨0, rfl, ⟨rfl, by omega⟩, rfl⟩
  case round =>
    obtain ⟨k, rfl, HK, rfl⟩ := hrel
    have hB := below_alloc (below_alloc (Below.refl w.heap.size w) (.cells #[.slice none 0 0, .int .i64 0] 46)) (.cells #[.pointer none, .pointer (some ⟨w.heap.size, 0, none⟩)] 23)
    have hO : ((w.alloc (.cells #[.slice none 0 0, .int .i64 0] 46)).alloc (.cells #[.pointer none, .pointer (some ⟨w.heap.size, 0, none⟩)] 23)).heap[w.heap.size]? = some (.cells #[.slice none 0 0, .int .i64 0] 46) := blk_alloc (blk_new _ _) _
    have hL : ((w.alloc (.cells #[.slice none 0 0, .int .i64 0] 46)).alloc (.cells #[.pointer none, .pointer (some ⟨w.heap.size, 0, none⟩)] 23)).heap[w.heap.size + 1]? = some (.cells #[.pointer none, .pointer (some ⟨w.heap.size, 0, none⟩)] 23) := by
      have := blk_new (w.alloc (.cells #[.slice none 0 0, .int .i64 0] 46)) (.cells #[.pointer none, .pointer (some ⟨w.heap.size, 0, none⟩)] 23)
      rw [size_alloc'] at this
      exact this
    generalize hw : ((w.alloc (.cells #[.slice none 0 0, .int .i64 0] 46)).alloc (.cells #[.pointer none, .pointer (some ⟨w.heap.size, 0, none⟩)] 23)) = w1 at hB hO hL ⊢
    have HW := Aside0.mk hw
    clear hw
    by_cases h2 : k = 2
    · subst h2
      have HAW := Aside0.mk (awake_calls w1)
      have HB := Aside0.mk hB
      clear hB hO hL
      go_wp2_with fail
      refine HAW.out.mono ?_
      rintro e w2 ⟨rfl, hb⟩
      have HB2 := Aside0.mk (below_step HB.out hb)
      clear hb
      go_wp2_with fail
      go_ret
      exact ⟨by simp, HB2.out⟩
    · have hk : k < 2 := by have := HK.out; omega
      obtain ⟨v, hcell, hno⟩ : ∃ v, w1.cell? ⟨w.heap.size + 1, k, none⟩ = some v ∧ NoChain w1 v := by
        rcases (show k = 0 ∨ k = 1 by omega) with rfl | rfl
        · exact ⟨_, (blk_cell hL 0).trans rfl, .inl rfl⟩
        · exact ⟨_, (blk_cell hL 1).trans rfl, .inr ⟨w.heap.size, rfl, hO⟩⟩
      have HNO := Aside0.mk hno
      have hk1 : (k : Int) < 2 := by omega
      clear hB hO hL hno
      go_wp2_with fail
      refine (first_nobody HNO.out).mono ?_
      rintro e w' ⟨rfl, rfl⟩
      go_wp2_with fail
      refine (last_nobody HNO.out).mono ?_
      rintro e w' ⟨rfl, rfl⟩
      go_wp2_with fail
      refine (front_bad (by decide) (there_nobody HNO.out i)).mono ?_
      rintro e w' ⟨rfl, rfl⟩
      go_wp2_with fail
      refine (back_bad (by decide) (there_nobody HNO.out i)).mono ?_
      rintro e w' ⟨rfl, rfl⟩
      go_wp2_with fail
      refine (cut_bad (by decide) (there_nobody HNO.out i)).mono ?_
      rintro e w' ⟨rfl, rfl⟩
      go_wp2_with fail
      refine (has_nobody HNO.out i).mono ?_
      rintro e w' ⟨rfl, rfl⟩
      go_wp2_with fail
      refine (len_nobody HNO.out).mono ?_
      rintro e w' ⟨rfl, rfl⟩
      go_wp2_with fail
      refine (row_empty (len_nobody HNO.out)).mono ?_
      rintro e w' ⟨rfl, rfl⟩
      go_wp2_with fail
      go_roundg (3 - (k + 1))
      case measure =>
        have := HK.out
        omega
      case rel => exact ⟨k + 1, by simp, ⟨rfl, by omega⟩, HW.out.symm⟩
end Go.Proofs.Ytcncninjnickoaa.Chain
