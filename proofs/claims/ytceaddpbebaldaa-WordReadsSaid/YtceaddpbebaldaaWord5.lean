/- A reader's Zeros and Text. -/
import Derived.Test.YtceaddpbebaldaaWord4
namespace Go.Proofs.Ytceaddpbebaldaa.Word
open Go.RowKit Go.Proofs.YtceaddpbebaldaaW.PrintWords Go.Proofs.YtceaddpbebaldaaW.PrintLast Go.Proofs.YtceaddpbebaldaaW.PrintMore
open Go.Proofs.Ytceaddpbebaldaa Go.Proofs.Ytceaddpbebaldaa.Vals
set_option linter.unusedVariables false
set_option linter.unusedSimpArgs false

theorem nz_text (c : Int) (w : World) : Calls Try.prog 32 #[.int .u8 c] w fun e w' => e = .returned (.bool (c != 0)) ∧ w = w' := by
  go_enter Try.func32, Try.ntmps32
  go_wp2_with fail
  go_ret
  exact ⟨by simp, rfl⟩
theorem nz_zeros (c : Int) (w : World) : Calls Try.prog 33 #[.int .u8 c] w fun e w' => e = .returned (.bool (c != 0)) ∧ w = w' := by
  go_enter Try.func33, Try.ntmps33
  go_wp2_with fail
  go_ret
  exact ⟨by simp, rfl⟩

set_option maxHeartbeats 1000000 in
theorem index_text {w : World} {v : Value} {bs : List Int} (h : Bys bs v w) (hl : bs.length ≤ 140737488351232) : Calls Try.prog 34 #[v, .func (.func 32) #[] #[]] w fun e w' => ∃ k : Int, e = .returned (.int .i64 k) ∧ decide (0 ≤ k) = bs.any (fun c => c != 0) ∧ w = w' := by
  obtain ⟨A, c, rfl, hc, hC⟩ := h
  have HC := Aside0.mk hC
  clear hC
  go_enter Try.func34, Try.ntmps34
  go_wp2_with fail
  go_loopg [8] (bs.length + 1) (fun kq v8 w' => ∃ i : Nat, v8 = .int .i64 (i : Int) ∧ Aside0 (kq = bs.length - i + 1 ∧ i ≤ bs.length ∧ (bs.take i).any (fun c => c != 0) = false) ∧ w' = w)
  case atStart => exact ⟨0, rfl, ⟨rfl, Nat.zero_le _, rfl⟩, rfl⟩
  case round =>
    obtain ⟨i, rfl, HI, rfl⟩ := hrel
    by_cases hi : i < bs.length
    · have hi' : (i : Int) < (bs.length : Int) := by omega
      have d1 : decide ((i : Int) < (bs.length : Int)) = true := decide_eq_true hi'
      obtain ⟨ad, rfl, hcell⟩ := Kd.at_int HC.out (i : Int) (by omega) hi'
      rw [Int.toNat_natCast, rd_lt hi] at hcell
      obtain ⟨x, hx⟩ : ∃ x, bs[i] = x := ⟨_, rfl⟩
      rw [hx] at hcell
      have hnext : (bs.take (i + 1)).any (fun c => c != 0) = (x != 0) := by
        rw [List.take_succ_eq_append_getElem hi, hx, List.any_append, HI.out.2.2]
        simp
      have hmem : x ∈ bs := hx ▸ List.getElem_mem hi
      by_cases h0 : x = 0
      · have e0 : (x != 0) = false := by simp [h0]
        rw [e0] at hnext
        have HN := Aside0.mk hnext
        have HZ := Aside0.mk (show ∀ w : World, Calls Try.prog 32 #[.int .u8 x] w fun e w' => e = .returned (.bool false) ∧ w = w' from fun w => by have := nz_text x w; rwa [e0] at this)
        clear hnext hx h0 e0
        go_wp2_with fail
        refine (HZ.out _).mono ?_
        rintro en w' ⟨rfl, rfl⟩
        go_wp2_with fail
        go_roundg (bs.length - (i + 1) + 1)
        case measure => have := HI.out; omega
        case rel => exact ⟨i + 1, by simp, ⟨rfl, by omega, HN.out⟩, rfl⟩
      · have e0 : (x != 0) = true := by simp [h0]
        have HZ := Aside0.mk (show ∀ w : World, Calls Try.prog 32 #[.int .u8 x] w fun e w' => e = .returned (.bool true) ∧ w = w' from fun w => by have := nz_text x w; rwa [e0] at this)
        clear hnext hx
        go_wp2_with fail
        refine (HZ.out _).mono ?_
        rintro en w' ⟨rfl, rfl⟩
        go_wp2_with fail
        go_ret
        refine ⟨(i : Int), rfl, ?_, rfl⟩
        rw [decide_eq_true (by omega)]
        exact (List.any_eq_true.2 ⟨x, hmem, e0⟩).symm
    · have d1 : decide ((i : Int) < (bs.length : Int)) = false := decide_eq_false (by omega)
      go_wp2_with fail
      go_ret
      refine ⟨-1, rfl, ?_, rfl⟩
      have h1 := HI.out.2
      rw [List.take_of_length_le (by omega)] at h1
      rw [h1.2]
      rfl

theorem contains_text {w : World} {v : Value} {bs : List Int} (h : Bys bs v w) (hl : bs.length ≤ 140737488351232) : Calls Try.prog 31 #[v, .func (.func 32) #[] #[]] w fun e w' => e = .returned (.bool (bs.any (fun c => c != 0))) ∧ w = w' := by
  have HX := Aside0.mk (index_text h hl)
  clear h
  go_enter Try.func31, Try.ntmps31
  go_wp2_with fail
  refine HX.out.mono ?_
  rintro en w' ⟨k, rfl, hk, rfl⟩
  have HKK := Aside0.mk hk
  clear hk
  go_wp2_with fail
  go_ret
  refine ⟨?_, rfl⟩
  show Ending.returned (Value.bool (decide (0 ≤ k))) = _
  rw [HKK.out]

set_option maxHeartbeats 1000000 in
theorem index_zeros {w : World} {v : Value} {bs : List Int} (h : Bys bs v w) (hl : bs.length ≤ 140737488351232) : Calls Try.prog 34 #[v, .func (.func 33) #[] #[]] w fun e w' => ∃ k : Int, e = .returned (.int .i64 k) ∧ decide (0 ≤ k) = bs.any (fun c => c != 0) ∧ w = w' := by
  obtain ⟨A, c, rfl, hc, hC⟩ := h
  have HC := Aside0.mk hC
  clear hC
  go_enter Try.func34, Try.ntmps34
  go_wp2_with fail
  go_loopg [8] (bs.length + 1) (fun kq v8 w' => ∃ i : Nat, v8 = .int .i64 (i : Int) ∧ Aside0 (kq = bs.length - i + 1 ∧ i ≤ bs.length ∧ (bs.take i).any (fun c => c != 0) = false) ∧ w' = w)
  case atStart => exact ⟨0, rfl, ⟨rfl, Nat.zero_le _, rfl⟩, rfl⟩
  case round =>
    obtain ⟨i, rfl, HI, rfl⟩ := hrel
    by_cases hi : i < bs.length
    · have hi' : (i : Int) < (bs.length : Int) := by omega
      have d1 : decide ((i : Int) < (bs.length : Int)) = true := decide_eq_true hi'
      obtain ⟨ad, rfl, hcell⟩ := Kd.at_int HC.out (i : Int) (by omega) hi'
      rw [Int.toNat_natCast, rd_lt hi] at hcell
      obtain ⟨x, hx⟩ : ∃ x, bs[i] = x := ⟨_, rfl⟩
      rw [hx] at hcell
      have hnext : (bs.take (i + 1)).any (fun c => c != 0) = (x != 0) := by
        rw [List.take_succ_eq_append_getElem hi, hx, List.any_append, HI.out.2.2]
        simp
      have hmem : x ∈ bs := hx ▸ List.getElem_mem hi
      by_cases h0 : x = 0
      · have e0 : (x != 0) = false := by simp [h0]
        rw [e0] at hnext
        have HN := Aside0.mk hnext
        have HZ := Aside0.mk (show ∀ w : World, Calls Try.prog 33 #[.int .u8 x] w fun e w' => e = .returned (.bool false) ∧ w = w' from fun w => by have := nz_zeros x w; rwa [e0] at this)
        clear hnext hx h0 e0
        go_wp2_with fail
        refine (HZ.out _).mono ?_
        rintro en w' ⟨rfl, rfl⟩
        go_wp2_with fail
        go_roundg (bs.length - (i + 1) + 1)
        case measure => have := HI.out; omega
        case rel => exact ⟨i + 1, by simp, ⟨rfl, by omega, HN.out⟩, rfl⟩
      · have e0 : (x != 0) = true := by simp [h0]
        have HZ := Aside0.mk (show ∀ w : World, Calls Try.prog 33 #[.int .u8 x] w fun e w' => e = .returned (.bool true) ∧ w = w' from fun w => by have := nz_zeros x w; rwa [e0] at this)
        clear hnext hx
        go_wp2_with fail
        refine (HZ.out _).mono ?_
        rintro en w' ⟨rfl, rfl⟩
        go_wp2_with fail
        go_ret
        refine ⟨(i : Int), rfl, ?_, rfl⟩
        rw [decide_eq_true (by omega)]
        exact (List.any_eq_true.2 ⟨x, hmem, e0⟩).symm
    · have d1 : decide ((i : Int) < (bs.length : Int)) = false := decide_eq_false (by omega)
      go_wp2_with fail
      go_ret
      refine ⟨-1, rfl, ?_, rfl⟩
      have h1 := HI.out.2
      rw [List.take_of_length_le (by omega)] at h1
      rw [h1.2]
      rfl

theorem contains_zeros {w : World} {v : Value} {bs : List Int} (h : Bys bs v w) (hl : bs.length ≤ 140737488351232) : Calls Try.prog 31 #[v, .func (.func 33) #[] #[]] w fun e w' => e = .returned (.bool (bs.any (fun c => c != 0))) ∧ w = w' := by
  have HX := Aside0.mk (index_zeros h hl)
  clear h
  go_enter Try.func31, Try.ntmps31
  go_wp2_with fail
  refine HX.out.mono ?_
  rintro en w' ⟨k, rfl, hk, rfl⟩
  have HKK := Aside0.mk hk
  clear hk
  go_wp2_with fail
  go_ret
  refine ⟨?_, rfl⟩
  show Ending.returned (Value.bool (decide (0 ≤ k))) = _
  rw [HKK.out]

theorem zeros_nobody (n : Int) (w : World) : Calls Try.prog 22 #[.pointer none, .int .i64 n] w fun e w' => (∃ v, e = .returned v) ∧ w = w' := by
  go_enter Try.func22, Try.ntmps22
  go_wp2_with fail
  refine (raw_nobody n w).mono ?_
  rintro en w1 ⟨rfl, hw⟩
  subst hw
  go_wp2_with fail
  refine (contains_zeros (bs := []) (IsL.nil _ _) (by simp)).mono ?_
  rintro en w1 ⟨rfl, hw⟩
  subst hw
  go_wp2_with fail
  exact bodyPost_end (results_none rfl _ _ _) rfl ⟨⟨_, rfl⟩, rfl⟩

theorem zeros_calls {w : World} {g : Nat} {bs : List Int} {e : Int} (h : Rd w g bs e) (n : Int) : Calls Try.prog 22 #[.pointer (some ⟨g, 0, none⟩), .int .i64 n] w fun en w' => (∃ v, en = .returned v) ∧ Rd w' g (if (rawO bs e n).any (fun c => c != 0) then [] else rawB bs e n) (if (rawO bs e n).any (fun c => c != 0) then (if rawE bs e n = 0 then 3 else rawE bs e n) else rawE bs e n) ∧ Keeps (fun k => k = g) w w' := by
  have hol : (rawO bs e n).length ≤ 140737488351232 := by
    have := h.le
    unfold rawO
    repeat' split
    all_goals simp
    omega
  have HRAW := Aside0.mk (raw_calls h n)
  clear h
  generalize rawO bs e n = out at *
  generalize rawB bs e n = bs' at *
  generalize rawE bs e n = e' at *
  by_cases ha : out.any (fun c => c != 0) = true
  · rw [if_pos ha, if_pos ha]
    obtain ⟨e3, he3⟩ : ∃ e3, (if e' = 0 then 3 else e') = e3 := ⟨_, rfl⟩
    rw [he3]
    go_enter Try.func22, Try.ntmps22
    go_wp2_with fail
    refine HRAW.out.mono ?_
    rintro en w1 ⟨v, rfl, hI, hfar, hrd, hk⟩
    have HX := Aside0.mk (contains_zeros hI hol)
    have HR := Aside0.mk hrd
    have HK := Aside0.mk hk
    clear hI hrd hk hfar
    have hx := HX.out
    rw [ha] at hx
    have HX2 := Aside0.mk hx
    clear hx HX ha
    go_wp2_with fail
    refine HX2.out.mono ?_
    rintro en w' ⟨rfl, rfl⟩
    go_wp2_with fail
    have hs := spoil_calls HR.out 3
    rw [he3] at hs
    clear he3
    refine hs.mono ?_
    clear hs
    rintro en w2 ⟨⟨x, rfl⟩, hr2, hk2⟩
    have HR2 := Aside0.mk hr2
    have HK2 := Aside0.mk (HK.out.trans hk2)
    clear hr2 hk2
    go_wp2_with fail
    exact bodyPost_end (results_none rfl _ _ _) rfl ⟨⟨_, rfl⟩, HR2.out, HK2.out⟩
  · rw [if_neg ha, if_neg ha]
    go_enter Try.func22, Try.ntmps22
    go_wp2_with fail
    refine HRAW.out.mono ?_
    rintro en w1 ⟨v, rfl, hI, hfar, hrd, hk⟩
    have HX := Aside0.mk (contains_zeros hI hol)
    have HR := Aside0.mk hrd
    have HK := Aside0.mk hk
    clear hI hrd hk hfar
    have hx := HX.out
    rw [(Bool.not_eq_true _).mp ha] at hx
    have HX2 := Aside0.mk hx
    clear hx HX ha
    go_wp2_with fail
    refine HX2.out.mono ?_
    rintro en w' ⟨rfl, rfl⟩
    go_wp2_with fail
    exact bodyPost_end (results_none rfl _ _ _) rfl ⟨⟨_, rfl⟩, HR.out, HK.out⟩
end Go.Proofs.Ytceaddpbebaldaa.Word
