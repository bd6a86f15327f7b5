/- A tuple's key is in the span of another one just if it begins with that: the law. -/
import Derived.Test.YtdekhhimjnockaaDoorTuKeys
namespace Go.Proofs.YtdekhhimjnockaaDoor.Tu
open Go.RowKit Go.Proofs.YtdekhhimjnockaaDoorW.PrintWords Go.Proofs.YtdekhhimjnockaaDoorW.PrintLast Go.Proofs.YtdekhhimjnockaaDoorW.PrintMore
open Go.Proofs.YtdekhhimjnockaaDoor Go.Proofs.YtdekhhimjnockaaDoor.Vals Go.Proofs.YtdekhhimjnockaaDoor.Word Go.Proofs.YtdekhhimjnockaaDoor.Q Go.Proofs.YtdekhhimjnockaaDoor.S
set_option linter.unusedVariables false
set_option linter.unusedSimpArgs false

theorem good_of {l : List S45} (hm : l.all mayP = true) (ho : ∀ p ∈ l, OkP p) : Good l := fun p hp => ⟨List.all_eq_true.1 hm p hp, ho p hp⟩
theorem encU_str (l : List S45) : (strOfNums (enc l)).data.toList = encU l := strOfNums_data _
theorem encU_behind (l : List S45) : (strOfNums (enc l) ++ ⟨#[3]⟩ : ByteArray).data.toList = encU l ++ [3] := by
  rw [show (⟨#[3]⟩ : ByteArray) = strOfNums [3] from str_is [3], ← str_append, strOfNums_data, List.map_append]
  rfl
theorem take_map (l : List S45) (n : Nat) : (l.take n).map to59 = (l.map to59).take n := List.map_take
set_option maxHeartbeats 8000000 in
set_option maxRecDepth 100000 in
theorem begins_law {w : World} {A B : Option Addr} {c d : Nat} {a b : List S45} (h : k45.C w A a.length a) (hc : a.length ≤ c) (ha : Num64 a) (h2 : k45.C w B b.length b) (hd : b.length ≤ d) (hb : Num64 b) (hm : MaxL w) :
    Calls Tryd.prog 4 #[.slice A a.length c, .slice B b.length d] w (fun e w' => e = .returned (.bool true) ∧ Below w.heap.size w w') := by
  have HA := Aside0.mk h
  have HAC := Aside0.mk hc
  have HAN := Aside0.mk ha
  have HB := Aside0.mk h2
  have HBC := Aside0.mk hd
  have HBN := Aside0.mk hb
  have HM := Aside0.mk hm
  clear h hc ha h2 hd hb hm
  go_enter Tryd.func4, Tryd.ntmps4
  go_wp2_with fail
  refine (great_calls HA.out HAC.out HAN.out).mono ?_
  rintro en w1 ⟨ga, rfl, hga, hb1⟩
  have HW1 := Aside0.mk hb1
  have HA1 := Aside0.mk (Kd.C_below HA.out hb1)
  have HB1 := Aside0.mk (Kd.C_below HB.out hb1)
  clear hb1 HA HB
  cases ga with
  | true =>
    clear hga
    go_wp2_with fail
    refine (awake_calls (HM.out.below HW1.out)).mono ?_
    rintro en w2 ⟨rfl, hb⟩
    have HW2 := Aside0.mk (below_step HW1.out hb)
    clear hb
    go_wp2_with fail
    go_ret
    exact ⟨rfl, HW2.out⟩
  | false =>
    have HSA := Aside0.mk (hga rfl)
    clear hga
    go_wp2_with fail
    refine (great_calls HB1.out HBC.out HBN.out).mono ?_
    rintro en w2 ⟨gb, rfl, hgb, hb2⟩
    have HW2 := Aside0.mk (below_step HW1.out hb2)
    have HA2 := Aside0.mk (Kd.C_below HA1.out hb2)
    have HB2 := Aside0.mk (Kd.C_below HB1.out hb2)
    clear hb2 HA1 HB1 HW1
    cases gb with
    | true =>
      clear hgb
      go_wp2_with fail
      refine (awake_calls (HM.out.below HW2.out)).mono ?_
      rintro en w3 ⟨rfl, hb⟩
      have HW3 := Aside0.mk (below_step HW2.out hb)
      clear hb
      go_wp2_with fail
      go_ret
      exact ⟨rfl, HW3.out⟩
    | false =>
      have HSB := Aside0.mk (hgb rfl)
      have HAO := Aside0.mk (ok_of HAN.out HSA.out)
      have HBO := Aside0.mk (ok_of HBN.out HSB.out)
      have HAL := Aside0.mk HSA.out.1
      have HBL := Aside0.mk HSB.out.1
      clear hgb
      obtain ⟨ma, hma⟩ : ∃ m, a.map to59 = m := ⟨_, rfl⟩
      have HMA := Aside0.mk hma
      have HMAL := Aside0.mk (show ma.length = a.length from by rw [← hma, List.length_map])
      obtain ⟨mb, hmb⟩ : ∃ m, b.map to59 = m := ⟨_, rfl⟩
      have HMB := Aside0.mk hmb
      have HMBL := Aside0.mk (show mb.length = b.length from by rw [← hmb, List.length_map])
      clear hma hmb
      go_wp2_with fail
      refine (as_calls HA2.out HAC.out (by have := HAL.out; omega) HMA.out).mono ?_
      rintro en w3 ⟨A3, c3, rfl, hC3, hc3, hb⟩
      have HW3 := Aside0.mk (below_step HW2.out hb)
      have HA3 := Aside0.mk (Kd.C_below HA2.out hb)
      have HB3 := Aside0.mk (Kd.C_below HB2.out hb)
      have HD3 := Aside0.mk hC3
      have HDC := Aside0.mk hc3
      clear hb HW2 HA2 HB2 hC3 hc3
      go_wp2_with fail
      refine (may_calls HD3.out HDC.out HMA.out (by have := HAL.out; omega)).mono ?_
      rintro en w4 ⟨rfl, hb⟩
      have HW4 := Aside0.mk (below_step HW3.out hb)
      have HA4 := Aside0.mk (Kd.C_below HA3.out hb)
      have HB4 := Aside0.mk (Kd.C_below HB3.out hb)
      clear hb HW3 HA3 HB3 HD3 HDC
      cases hya : a.all mayP with
      | false =>
        clear hya
        go_wp2_with fail
        refine (awake_calls (HM.out.below HW4.out)).mono ?_
        rintro en w5 ⟨rfl, hb⟩
        have HW5 := Aside0.mk (below_step HW4.out hb)
        clear hb
        go_wp2_with fail
        go_ret
        exact ⟨rfl, HW5.out⟩
      | true =>
        have HYA := Aside0.mk hya
        clear hya
        go_wp2_with fail
        refine (as_calls HB4.out HBC.out (by have := HBL.out; omega) HMB.out).mono ?_
        rintro en w5 ⟨A5, c5, rfl, hC5, hc5, hb⟩
        have HW5 := Aside0.mk (below_step HW4.out hb)
        have HA5 := Aside0.mk (Kd.C_below HA4.out hb)
        have HB5 := Aside0.mk (Kd.C_below HB4.out hb)
        have HD5 := Aside0.mk hC5
        have HDC := Aside0.mk hc5
        clear hb HW4 HA4 HB4 hC5 hc5
        go_wp2_with fail
        refine (may_calls HD5.out HDC.out HMB.out (by have := HBL.out; omega)).mono ?_
        rintro en w6 ⟨rfl, hb⟩
        have HW6 := Aside0.mk (below_step HW5.out hb)
        have HA6 := Aside0.mk (Kd.C_below HA5.out hb)
        have HB6 := Aside0.mk (Kd.C_below HB5.out hb)
        clear hb HW5 HA5 HB5 HD5 HDC
        cases hyb : b.all mayP with
        | false =>
          clear hyb
          go_wp2_with fail
          refine (awake_calls (HM.out.below HW6.out)).mono ?_
          rintro en w7 ⟨rfl, hb⟩
          have HW7 := Aside0.mk (below_step HW6.out hb)
          clear hb
          go_wp2_with fail
          go_ret
          exact ⟨rfl, HW7.out⟩
        | true =>
          have HYB := Aside0.mk hyb
          clear hyb
          have HSV := Aside0.mk (show spanV a = _ from if_pos HYA.out)
          have HKV := Aside0.mk (show keyV b = _ from if_pos HYB.out)
          have HIN := Aside0.mk (in_law (good_of HYA.out HAO.out) (good_of HYB.out HBO.out))
          rw [← encU_behind, ← encU_str, ← encU_str] at HIN
          have HKA := Aside0.mk (show (strOfNums (enc a)).size ≤ 100000 from by rw [strOfNums_size]; exact enc_small HSA.out)
          have HKB := Aside0.mk (show (strOfNums (enc b)).size ≤ 100000 from by rw [strOfNums_size]; exact enc_small HSB.out)
          generalize strOfNums (enc a) = ka at HSV HIN HKA
          generalize strOfNums (enc b) = kb at HKV HIN HKB
          go_wp2_with fail
          refine (span_calls HA6.out HAO.out (by have := HAL.out; omega) (HM.out.below HW6.out)).mono ?_
          rintro en w7 ⟨rfl, hb⟩
          have HW7 := Aside0.mk (below_step HW6.out hb)
          have HA7 := Aside0.mk (Kd.C_below HA6.out hb)
          have HB7 := Aside0.mk (Kd.C_below HB6.out hb)
          clear hb HW6 HA6 HB6
          rw [HSV.out]
          go_upto_region 4 with fail
          have HB := below_alloc (Below.refl w7.heap.size w7) (.cells #[.string ka, .string (ka ++ ⟨#[3]⟩), .bool false] 38)
          have HZ := Aside0.mk (blk_new w7 (.cells #[.string ka, .string (ka ++ ⟨#[3]⟩), .bool false] 38))
          have HW8 := Aside0.mk (below_step HW7.out HB)
          have HA8 := Aside0.mk (Kd.C_below HA7.out HB)
          have HB8 := Aside0.mk (Kd.C_below HB7.out HB)
          clear HW7 HA7 HB7 HB
          generalize w7.alloc (.cells #[.string ka, .string (ka ++ ⟨#[3]⟩), .bool false] 38) = w8 at HZ HW8 HA8 HB8 ⊢
          obtain ⟨T, hT⟩ : ∃ T, w7.heap.size = T := ⟨_, rfl⟩
          rw [hT] at HZ ⊢
          clear hT
          go_wp2_with fail
          refine (key_calls HB8.out HBO.out (by have := HBL.out; omega) (HM.out.below HW8.out)).mono ?_
          rintro en w9 ⟨rfl, hb⟩
          have HZ9 := Aside0.mk (blk_below HZ.out hb)
          have HW9 := Aside0.mk (below_step HW8.out hb)
          have HA9 := Aside0.mk (Kd.C_below HA8.out hb)
          have HB9 := Aside0.mk (Kd.C_below HB8.out hb)
          clear hb HZ HW8 HA8 HB8
          rw [HKV.out]
          have c0 := (blk_cell HZ9.out 0).trans rfl
          have c1 := (blk_cell HZ9.out 1).trans rfl
          have c2 := (blk_cell HZ9.out 2).trans rfl
          by_cases hlen : a.length ≤ b.length
          · have t1 : decide ((a.length : Int) ≤ (b.length : Int)) = true := decide_eq_true (by omega)
            have t2 : decide (a.length ≤ b.length) = true := decide_eq_true hlen
            have q1 : (a.length : Int) ≤ (d : Int) := by have := HBC.out; omega
            have q2 : a.length ≤ d := by have := HBC.out; omega
            have q3 : min a.length b.length = a.length := by omega
            have q4 : min (a.length : Int) (b.length : Int) = (a.length : Int) := by omega
            obtain ⟨bt, hbt⟩ : ∃ l, b.take a.length = l := ⟨_, rfl⟩
            have HBT := Aside0.mk hbt
            have hbl : bt.length = a.length := by rw [← hbt, List.length_take]; omega
            have HBTL := Aside0.mk hbl
            obtain ⟨mt, hmt⟩ : ∃ m, bt.map to59 = m := ⟨_, rfl⟩
            have HMT := Aside0.mk hmt
            have HBC9 := Aside0.mk (show k45.C w9 B bt.length bt from by
              have h := Kd.C_take HB9.out (m := a.length) hlen
              rw [hbt] at h
              exact h)
            have HCL := Aside0.mk (as_calls HBC9.out (c := d) (by omega) (by have := HAL.out; omega) hmt)
            rw [hbl] at HCL
            have HMTL := Aside0.mk (show mt.length = a.length from by rw [← hmt, List.length_map]; exact hbl)
            have HEQ := Aside0.mk (show mt = ma ↔ b.take a.length = a from by
              rw [hbt, ← hmt, ← HMA.out]
              exact ⟨fun h => by rw [← to45_59 bt, h, to45_59], fun h => by rw [h]⟩)
            clear hbt hbl hmt hlen
            go_wp2_with fail
            refine HCL.out.mono ?_
            rintro en wa ⟨Aa, ca, rfl, hCa, hca, hb⟩
            have HZa := Aside0.mk (blk_below HZ9.out hb)
            have HWa := Aside0.mk (below_step HW9.out hb)
            have HAa := Aside0.mk (Kd.C_below HA9.out hb)
            have HDa := Aside0.mk hCa
            have HDCa := Aside0.mk hca
            clear hb HZ9 HW9 HA9 HB9 HBC9 HCL hCa hca c0 c1 c2
            go_wp2_with fail
            refine (as_calls HAa.out HAC.out (by have := HAL.out; omega) HMA.out).mono ?_
            rintro en wb ⟨Ab, cb, rfl, hCb, hcb, hb⟩
            have HZb := Aside0.mk (blk_below HZa.out hb)
            have HWb := Aside0.mk (below_step HWa.out hb)
            have HDb := Aside0.mk (Kd.C_below HDa.out hb)
            have HEb := Aside0.mk hCb
            have HECb := Aside0.mk hcb
            clear hb HZa HWa HAa HDa hCb hcb
            go_wp2_with fail
            refine (rsame_calls HDb.out HDCa.out HEb.out HECb.out (by have := HAL.out; have := HMTL.out; omega)).mono ?_
            rintro en wc ⟨r, rfl, hri, hb⟩
            have HZc := Aside0.mk (blk_below HZb.out hb)
            have HWc := Aside0.mk (below_step HWb.out hb)
            have HR := Aside0.mk (show decide (Lib.compareBytes ka.data.toList kb.data.toList ≤ 0 ∧ Lib.compareBytes kb.data.toList (ka ++ ⟨#[3]⟩ : ByteArray).data.toList < 0) = r from by
              have h1 := HIN.out
              have h2 := HEQ.out
              cases hrb : r with
              | true => exact decide_eq_true (h1.2 (h2.1 (hri.1 hrb)))
              | false => exact decide_eq_false (fun h => by rw [hri.2 (h2.2 (h1.1 h))] at hrb; cases hrb))
            clear hb hri HZb HWb HDb HEb
            have c0 := (blk_cell HZc.out 0).trans rfl
            have c1 := (blk_cell HZc.out 1).trans rfl
            have c2 := (blk_cell HZc.out 2).trans rfl
            go_wp2_with fail
            have k1 : ka.size ≤ 140737488355328 := by have := HKA.out; omega
            have k2 : kb.size ≤ 140737488355328 := by have := HKB.out; omega
            have HH := in_calls ka (ka ++ ⟨#[3]⟩) kb k1 k2 wc
            refine HH.mono ?_
            clear HH k1 k2
            rintro en wd ⟨rfl, hb⟩
            rw [HR.out]
            have HWd := Aside0.mk (below_step HWc.out hb)
            clear hb HZc HWc c0 c1 c2
            cases r
            all_goals
              go_wp2_with fail
              refine (awake_calls (HM.out.below HWd.out)).mono ?_
              rintro en we ⟨rfl, hb⟩
              have HWe := Aside0.mk (below_step HWd.out hb)
              clear hb
              go_wp2_with fail
              go_ret
              exact ⟨rfl, HWe.out⟩
          · have t1 : decide ((a.length : Int) ≤ (b.length : Int)) = false := decide_eq_false (by omega)
            have t2 : decide (a.length ≤ b.length) = false := decide_eq_false hlen
            have HR := Aside0.mk (show decide (Lib.compareBytes ka.data.toList kb.data.toList ≤ 0 ∧ Lib.compareBytes kb.data.toList (ka ++ ⟨#[3]⟩ : ByteArray).data.toList < 0) = false from decide_eq_false (fun h => by
              have h1 := congrArg List.length (HIN.out.1 h)
              rw [List.length_take] at h1
              omega))
            clear hlen
            go_wp2_with fail
            have k1 : ka.size ≤ 140737488355328 := by have := HKA.out; omega
            have k2 : kb.size ≤ 140737488355328 := by have := HKB.out; omega
            have HH := in_calls ka (ka ++ ⟨#[3]⟩) kb k1 k2 w9
            refine HH.mono ?_
            clear HH k1 k2
            rintro en wd ⟨rfl, hb⟩
            rw [HR.out]
            have HWd := Aside0.mk (below_step HW9.out hb)
            clear hb HZ9 HW9 c0 c1 c2
            go_wp2_with fail
            refine (awake_calls (HM.out.below HWd.out)).mono ?_
            rintro en we ⟨rfl, hb⟩
            have HWe := Aside0.mk (below_step HWd.out hb)
            clear hb
            go_wp2_with fail
            go_ret
            exact ⟨rfl, HWe.out⟩
end Go.Proofs.YtdekhhimjnockaaDoor.Tu
