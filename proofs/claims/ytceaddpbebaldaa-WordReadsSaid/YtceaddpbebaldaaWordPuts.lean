/- WordPuts: what the law's call comes to. -/
import Derived.Test.YtceaddpbebaldaaWordFits
import Derived.Test.YtceaddpbebaldaaReg
import Derived.Test.YtceaddpbebaldaaWordStr
import Derived.Test.YtceaddpbebaldaaWordBytes
namespace Go.Proofs.Ytceaddpbebaldaa.Word
open Go.RowKit Go.Proofs.YtceaddpbebaldaaW.PrintWords Go.Proofs.YtceaddpbebaldaaW.PrintLast Go.Proofs.YtceaddpbebaldaaW.PrintMore
open Go.Proofs.Ytceaddpbebaldaa Go.Proofs.Ytceaddpbebaldaa.Vals
set_option linter.unusedVariables false
set_option linter.unusedSimpArgs false

/-- The bytes of a number of any width: none of a width that is not right. -/
def anyBe (n x : Int) : List Int := if wide n then be n.toNat x else []
theorem anyBe_len (n x : Int) : (anyBe n x).length ≤ 8 := by
  unfold anyBe
  split
  · rename_i h
    rw [be_len]
    unfold wide at h; omega
  · simp
theorem rbytes_calls (n x : Int) (hx : 0 ≤ x) (hx2 : x < 18446744073709551616) (w : World) : Calls Try.prog 10 #[.int .i64 n, .int .u64 x] w fun e w' => ∃ v, e = .returned v ∧ Bys (anyBe n x) v w' ∧ Below w.heap.size w w' := by
  have hf : B.sluicegateref02_Bytes.f 9 n x = some (anyBe n x) := by
    unfold anyBe
    by_cases h : wide n
    · rw [if_pos h]
      obtain ⟨m, rfl⟩ := Int.eq_ofNat_of_zero_le (show 0 ≤ n by unfold wide at h; omega)
      exact bytes_wide m x h hx hx2
    · rw [if_neg h]
      exact bytes_not n x h
  refine (B.sluicegateref02_Bytes.calls 9 n x _ w hf).mono ?_
  rintro e w' ⟨v, rfl, hR, hb⟩
  obtain ⟨A, c, rfl, hc, hC⟩ := Kd.R_reads hR
  exact ⟨_, rfl, IsL.mk hc hC, hb⟩
theorem rwidth_calls (n : Int) (w : World) : Calls Try.prog 11 #[.int .i64 n] w fun e w' => e = .returned (.bool (decide (wide n))) ∧ Below w.heap.size w w' := by
  refine (B.sluicegateref02_Width.calls n _ w (width_f n)).mono ?_
  rintro e w' ⟨rfl, hd⟩
  obtain ⟨k, rfl⟩ := hd.out
  exact ⟨rfl, pw_below_drewN (Below.refl _ _) k⟩
theorem put_any {w : World} {v : Value} {bs : List Int} (h : Bys bs v w) (hl : bs.length ≤ 140737488351232) {n x : Int} (hx : 0 ≤ x) (hx2 : x < 18446744073709551616) : Calls Try.prog 9 #[v, .int .i64 n, .int .u64 x] w fun e w' => ∃ v', e = .returned v' ∧ Bys (bs ++ anyBe n x) v' w' ∧ Below w.heap.size w w' := by
  unfold anyBe
  by_cases hn : wide n
  · rw [if_pos hn]
    obtain ⟨m, rfl⟩ := Int.eq_ofNat_of_zero_le (show 0 ≤ n by unfold wide at hn; omega)
    refine (put_wide h hl hn hx hx2).mono ?_
    rintro e w' ⟨v, rfl, hR, hb⟩
    obtain ⟨A, c, rfl, hc, hC⟩ := Kd.R_reads hR
    exact ⟨_, rfl, IsL.mk hc hC, hb⟩
  · rw [if_neg hn, List.append_nil]
    refine (put_not h hl hn).mono ?_
    rintro e w' ⟨v, rfl, hR, hb⟩
    obtain ⟨A, c, rfl, hc, hC⟩ := Kd.R_reads hR
    exact ⟨_, rfl, IsL.mk hc hC, hb⟩

theorem str_append (l m : List Int) : strOfNums (l ++ m) = strOfNums l ++ strOfNums m := by
  apply ByteArray.ext
  rw [ByteArray.data_append]
  apply Array.toList_inj.1
  simp [strOfNums]

theorem run_str {w : World} {v : Value} {l : List Int} (h : Bys l v w) : (convert 22 9 v).run Try.prog w = .ok (.string (strOfNums l)) w := by
  obtain ⟨A, c, rfl, hc, hC⟩ := h
  exact Kd.C_string (P := Try.prog) (src := 22) (dst := 9) (e := 5) (c := c) Try.underlying22 Try.underlying5 Try.underlying9 hC

theorem fits_exit {n x : Int} {i : Nat} (hx : 0 ≤ x) (hi : i ≤ 8) (h : (i : Int) ≤ n ∨ i = 0) (he : ¬ ((i : Int) < n ∧ i < 8)) (hw : wide n) : fits n x ↔ x / 256 ^ i = 0 := by
  have hin : (i : Int) = n := by unfold wide at hw; omega
  subst hin
  unfold fits
  have e : (2 : Int) ^ (8 * (i : Int).toNat) = 256 ^ i := by
    rw [Int.toNat_natCast, Int.pow_mul]; rfl
  rw [e]
  rw [div_zero hx (Int.pow_pos (by decide))]
  exact ⟨fun h => h.2, fun h => ⟨hw, h⟩⟩
theorem div_step {x : Int} (hx : 0 ≤ x) (hx2 : x < 18446744073709551616) (i : Nat) : IntKind.u64.wrap (Int.tdiv (x / 256 ^ i) 256) = x / 256 ^ (i + 1) ∧ 0 ≤ x / 256 ^ i ∧ x / 256 ^ i / 256 = x / 256 ^ (i + 1) ∧ x / 256 ^ i < 18446744073709551616 := by
  have hp : (0 : Int) < 256 ^ i := Int.pow_pos (by decide)
  have h0 : 0 ≤ x / 256 ^ i := Int.ediv_nonneg hx (Int.le_of_lt hp)
  have hle : x / 256 ^ i ≤ x := Int.ediv_le_self _ hx
  have e : x / 256 ^ i / 256 = x / 256 ^ (i + 1) := by rw [Int.pow_succ, ← Int.ediv_ediv_of_nonneg (Int.le_of_lt hp)]
  refine ⟨?_, h0, e, by omega⟩
  rw [Int.tdiv_eq_ediv_of_nonneg h0, ← e]
  generalize x / 256 ^ i = q at *
  have hq : 0 ≤ q / 256 ∧ q / 256 < 18446744073709551616 := by omega
  generalize q / 256 = r at *
  simp [IntKind.wrap, IntKind.signed, IntKind.bits]
  omega

theorem puts_long {w : World} {v : Value} {bs : List Int} (h : Bys bs v w) (hl : bs.length ≤ 140737488351232) (h2 : 2000 < bs.length) (n x : Int) : Calls Try.prog 3 #[v, .int .i64 n, .int .u64 x] w fun e w' => e = .returned (.bool true) ∧ Below w.heap.size w w' := by
  obtain ⟨A, c, rfl, hc, hC⟩ := h
  have HAW := Aside0.mk (awake_calls w)
  have d1 : decide ((2000 : Int) < (bs.length : Int)) = true := decide_eq_true (by omega)
  have d2 : decide (2000 < bs.length) = true := decide_eq_true h2
  clear hC
  go_enter Try.func3, Try.ntmps3
  go_wp2_with fail
  refine HAW.out.mono ?_
  rintro en w' ⟨rfl, hb⟩
  have HB := Aside0.mk hb
  clear hb
  go_wp2_with fail
  go_ret
  exact ⟨by simp, HB.out⟩

theorem puts_short {w : World} {v : Value} {bs : List Int} (h : Bys bs v w) (h2 : bs.length ≤ 2000) (n x : Int) (hx : 0 ≤ x) (hx2 : x < 18446744073709551616) : Calls Try.prog 3 #[v, .int .i64 n, .int .u64 x] w fun e w' => e = .returned (.bool true) ∧ Below w.heap.size w w' := by
  have HI := Aside0.mk h
  have hrun := run_str h
  have HP := Aside0.mk (put_any (n := n) h (by omega) hx hx2)
  obtain ⟨A, c, rfl, hc, hC⟩ := h
  have d1 : decide ((2000 : Int) < (bs.length : Int)) = false := decide_eq_false (by omega)
  have d2 : decide (2000 < bs.length) = false := decide_eq_false (by omega)
  clear hC hc
  go_enter Try.func3, Try.ntmps3
  go_wp2_with fail
  refine HP.out.mono ?_
  rintro en w1 ⟨v1, rfl, hi, hb⟩
  have HX := Aside0.mk hi
  have HB := Aside0.mk hb
  have HI1 := Aside0.mk (HI.out.mono hb)
  clear hi hb hrun HI HP
  go_wp2_with fail
  refine (rbytes_calls n x hx hx2 w1).mono ?_
  rintro en w2 ⟨v2, rfl, hi, hb⟩
  have HY := Aside0.mk hi
  have HX2 := Aside0.mk (HX.out.mono hb)
  have HB2 := Aside0.mk (below_step HB.out hb)
  have HI2 := Aside0.mk (HI1.out.mono hb)
  clear hi hb HX HB HI1
  go_wp2_with fail
  refine (rwidth_calls n w2).mono ?_
  rintro en w3 ⟨rfl, hb⟩
  have HY3 := Aside0.mk (HY.out.mono hb)
  have HX3 := Aside0.mk (HX2.out.mono hb)
  have HB3 := Aside0.mk (below_step HB2.out hb)
  have HI3 := Aside0.mk (HI2.out.mono hb)
  clear hb HY HX2 HB2 HI2
  go_wp2_with fail
  go_loopg [11, 12] 9 (fun kq v11 v12 w' => ∃ i : Nat, v12 = .int .i64 (i : Int) ∧ v11 = .int .u64 (x / 256 ^ i) ∧ Aside0 (kq = 9 - i ∧ i ≤ 8 ∧ ((i : Int) ≤ n ∨ i = 0)) ∧ w' = w3)
  case atStart => exact ⟨0, rfl, by simp, ⟨rfl, by omega, Or.inr rfl⟩, rfl⟩
  case round =>
    obtain ⟨i, rfl, rfl, HK, rfl⟩ := hrel
    by_cases hgo : (i : Int) < n ∧ i < 8
    · obtain ⟨h1, h8⟩ := hgo
      have e1 : decide ((i : Int) < n) = true := decide_eq_true h1
      have e2 : decide ((i : Int) < 8) = true := decide_eq_true (by omega)
      have e3 : decide (i < 8) = true := decide_eq_true (by omega)
      obtain ⟨hq, hq0, hq2, hq3⟩ := div_step hx hx2 i
      have HQ := Aside0.mk hq2
      clear hq2
      go_wp2_with fail
      go_roundg (8 - i)
      case measure => have := HK.out; omega
      case rel => exact ⟨i + 1, by simp, by first | rfl | rw [HQ.out], ⟨by omega, by omega, by omega⟩, rfl⟩
    · have k1 := run_str HX3.out
      have k2 := run_str HY3.out
      have k3 := run_str HI3.out
      have q0 : ((strOfNums (bs ++ anyBe n x)).toList == (strOfNums bs ++ strOfNums (anyBe n x)).toList) = true := by
        rw [beq_iff_eq, str_append]
      have s0 : (9223372036854775807 < (strOfNums bs).size + (strOfNums (anyBe n x)).size) = False := by
        have := anyBe_len n x
        rw [strOfNums_size, strOfNums_size]
        simp; omega
      have hft := fits_calls n x hx hx2 wr
      have hall : (decide ((i : Int) < n) = false ∧ decide (wide n) = false ∧ decide (fits n x) = false) ∨ (decide ((i : Int) < n) = false ∧ decide (wide n) = true ∧ decide (fits n x) = false ∧ (x / 256 ^ i == 0) = false) ∨ (decide ((i : Int) < n) = false ∧ decide (wide n) = true ∧ decide (fits n x) = true ∧ (x / 256 ^ i == 0) = true) ∨ (decide ((i : Int) < n) = true ∧ decide ((i : Int) < 8) = false ∧ decide (i < 8) = false ∧ decide (wide n) = false ∧ decide (fits n x) = false) := by
        have hk := HK.out
        by_cases h1 : (i : Int) < n
        · have hnw : ¬ wide n := by unfold wide; omega
          refine Or.inr (Or.inr (Or.inr ⟨decide_eq_true h1, decide_eq_false (by omega), decide_eq_false (by omega), decide_eq_false hnw, decide_eq_false (fun h => hnw h.1)⟩))
        · by_cases hw : wide n
          · have hf := fits_exit hx hk.2.1 hk.2.2 hgo hw
            by_cases hz : x / 256 ^ i = 0
            · exact Or.inr (Or.inr (Or.inl ⟨decide_eq_false h1, decide_eq_true hw, decide_eq_true (hf.2 hz), by simpa using hz⟩))
            · exact Or.inr (Or.inl ⟨decide_eq_false h1, decide_eq_true hw, decide_eq_false (fun h => hz (hf.1 h)), by simpa using hz⟩)
          · exact Or.inl ⟨decide_eq_false h1, decide_eq_false hw, decide_eq_false (fun h => hw h.1)⟩
      rcases hall with ⟨e1, e2, e3⟩ | ⟨e1, e2, e3, e4⟩ | ⟨e1, e2, e3, e4⟩ | ⟨e1, e5, e6, e2, e3⟩
      all_goals
        rw [e3] at hft
        have HF := Aside0.mk hft
        clear hft e3 hgo
        rw [e2]
        clear e2
        go_wp2_with fail
        refine HF.out.mono ?_
        rintro en w' ⟨rfl, rfl⟩
        go_wp2_with fail
        refine (awake_calls _).mono ?_
        rintro en w4 ⟨rfl, hb⟩
        have HB4 := Aside0.mk (below_step HB3.out hb)
        clear hb
        go_wp2_with fail
        go_ret
        exact ⟨by simp, HB4.out⟩

theorem puts_calls {w : World} {v : Value} {bs : List Int} (h : Bys bs v w) (hl : bs.length ≤ 140737488351232) (n x : Int) (hx : 0 ≤ x) (hx2 : x < 18446744073709551616) : Calls Try.prog 3 #[v, .int .i64 n, .int .u64 x] w fun e w' => e = .returned (.bool true) ∧ Below w.heap.size w w' := by
  by_cases h2 : 2000 < bs.length
  · exact puts_long h hl h2 n x
  · exact puts_short h (by omega) n x hx hx2
end Go.Proofs.Ytceaddpbebaldaa.Word
