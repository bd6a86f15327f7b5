/- A reader's Num. -/
import Derived.Test.YtceaddpbebaldaaWord3
namespace Go.Proofs.Ytceaddpbebaldaa.Word
open Go.RowKit Go.Proofs.YtceaddpbebaldaaW.PrintWords Go.Proofs.YtceaddpbebaldaaW.PrintLast Go.Proofs.YtceaddpbebaldaaW.PrintMore
open Go.Proofs.Ytceaddpbebaldaa Go.Proofs.Ytceaddpbebaldaa.Vals
set_option linter.unusedVariables false
set_option linter.unusedSimpArgs false

def Byte (bs : List Int) : Prop := ∀ c ∈ bs, 0 ≤ c ∧ c ≤ 255
theorem Byte.take {bs : List Int} (h : Byte bs) (n : Nat) : Byte (bs.take n) := fun c hc => h c (List.mem_of_mem_take hc)
theorem Byte.drop {bs : List Int} (h : Byte bs) (n : Nat) : Byte (bs.drop n) := fun c hc => h c (List.mem_of_mem_drop hc)
theorem Byte.nil : Byte [] := fun c hc => by simp at hc
theorem Byte.rawO {bs : List Int} (h : Byte bs) (e n : Int) : Byte (Word.rawO bs e n) := by
  unfold Word.rawO
  repeat' split
  all_goals first | exact Byte.nil | exact h.take _
theorem Byte.rawB {bs : List Int} (h : Byte bs) (e n : Int) : Byte (Word.rawB bs e n) := by
  unfold Word.rawB
  repeat' split
  all_goals first | exact Byte.nil | exact h.drop _ | exact h
theorem rawO_len (bs : List Int) (e n : Int) : ((rawO bs e n).length : Int) ≤ n ∨ (rawO bs e n).length = 0 := by
  unfold rawO
  repeat' split
  all_goals simp
  omega

def num (l : List Int) : Int := l.foldl (fun a c => a * 256 + c) 0
theorem num_snoc (l : List Int) (c : Int) : num (l ++ [c]) = num l * 256 + c := by simp [num]
theorem num_lt (l : List Int) (hl : Byte l) : 0 ≤ num l ∧ num l < 256 ^ l.length := by
  suffices h : ∀ n, n ≤ l.length → 0 ≤ num (l.take n) ∧ num (l.take n) < 256 ^ n by
    have := h l.length (Nat.le_refl _)
    rwa [List.take_length] at this
  intro n
  induction n with
  | zero => intro _; simp [num]
  | succ n ih =>
    intro hn
    have h1 := ih (by omega)
    have hlt : n < l.length := by omega
    rw [List.take_succ_eq_append_getElem hlt, num_snoc]
    have hc := hl _ (List.getElem_mem hlt)
    rw [Int.pow_succ]
    omega

theorem rd_lt {l : List Int} {i : Nat} (h : i < l.length) : rd l (i : Int) = l[i] := by
  unfold rd
  rw [Int.toNat_natCast, List.getD_eq_getElem?_getD, List.getElem?_eq_getElem h]
  rfl

theorem or8 (x y : Nat) (hx : x < 72057594037927936) (hy : y < 256) : Go.bits .or .u64 ((x : Int) * 256) (y : Int) = (x : Int) * 256 + y := by
  have e : ((x : Int) * 256) = ((x * 256 : Nat) : Int) := by omega
  rw [e]
  have h : ∀ a : Nat, a < 18446744073709551616 → (BitVec.ofInt 64 (a : Int)).toNat = a := fun a ha => by
    rw [BitVec.ofInt_natCast, BitVec.toNat_ofNat]; exact Nat.mod_eq_of_lt (by omega)
  show IntKind.u64.wrap ((BitVec.ofInt 64 ((x * 256 : Nat) : Int) ||| BitVec.ofInt 64 (y : Int)).toNat : Int) = _
  rw [BitVec.toNat_or, h _ (by omega), h _ (by omega)]
  have e2 : x * 256 ||| y = x * 256 + y := by
    have := Nat.two_pow_add_eq_or_of_lt (i := 8) (b := y) (by omega) x
    rw [show x * 256 = 2 ^ 8 * x by omega]
    exact this.symm
  rw [e2]
  simp [IntKind.wrap, IntKind.signed, IntKind.bits]
  omega

set_option maxHeartbeats 1000000 in
theorem num_wide {w : World} {g : Nat} {bs : List Int} {e : Int} (h : Rd w g bs e) (hby : Byte bs) {n : Int} (hn : wide n) : Calls Try.prog 14 #[.pointer (some ⟨g, 0, none⟩), .int .i64 n] w fun en w' => en = .returned (.int .u64 (num (rawO bs e n))) ∧ Rd w' g (rawB bs e n) (rawE bs e n) ∧ Keeps (fun k => k = g) w w' := by
  have hl8 : (rawO bs e n).length ≤ 8 := by
    have := rawO_len bs e n
    unfold wide at hn
    omega
  have hbo := hby.rawO e n
  have HRAW := Aside0.mk (raw_calls h n)
  have hr := right_calls n w
  rw [decide_eq_true hn] at hr
  have HW := Aside0.mk hr
  clear hr h
  generalize rawO bs e n = out at *
  go_enter Try.func14, Try.ntmps14
  go_wp2_with fail
  refine HW.out.mono ?_
  rintro en w' ⟨rfl, rfl⟩
  go_wp2_with fail
  refine HRAW.out.mono ?_
  rintro en w1 ⟨v, rfl, hI, hfar, hrd, hk⟩
  obtain ⟨A, c, rfl, hc, hC⟩ := hI
  have HC := Aside0.mk hC
  have HR := Aside0.mk hrd
  have HK := Aside0.mk hk
  clear hC hrd hk hfar
  go_wp2_with fail
  go_loopg [5, 15] (out.length + 1) (fun kq v5 v15 w' => ∃ i : Nat, v15 = .int .i64 (i : Int) ∧ v5 = .int .u64 (num (out.take i)) ∧ Aside0 (kq = out.length - i + 1 ∧ i ≤ out.length) ∧ w' = w1)
  case atStart => exact ⟨0, rfl, by simp [num], ⟨rfl, Nat.zero_le _⟩, rfl⟩
  case round =>
    obtain ⟨i, rfl, rfl, HI, rfl⟩ := hrel
    by_cases hi : i < out.length
    · have hi' : (i : Int) < (out.length : Int) := by omega
      have d1 : decide ((i : Int) < (out.length : Int)) = true := decide_eq_true hi'
      obtain ⟨ad, rfl, hcell⟩ := Kd.at_int HC.out (i : Int) (by omega) hi'
      rw [Int.toNat_natCast] at hcell
      have hgi := hbo _ (List.getElem_mem hi)
      have hrd : rd out (i : Int) = out[i] := rd_lt hi
      rw [hrd] at hcell
      obtain ⟨y, hy⟩ := Int.eq_ofNat_of_zero_le hgi.1
      rw [hy] at hcell
      have hnl := num_lt (out.take i) (hbo.take i)
      obtain ⟨x, hx⟩ := Int.eq_ofNat_of_zero_le hnl.1
      have hx56 : x < 72057594037927936 := by
        have h2 := hnl.2
        rw [hx, List.length_take, Nat.min_eq_left (Nat.le_of_lt hi)] at h2
        have h3 : (256 : Nat) ^ i ≤ 256 ^ 7 := Nat.pow_le_pow_right (by decide) (by omega)
        have h4 : ((256 : Int) ^ i) = ((256 ^ i : Nat) : Int) := by rw [Int.natCast_pow]; rfl
        rw [h4] at h2
        have h5 : x < 256 ^ i := Int.ofNat_lt.1 h2
        have h6 : (256 : Nat) ^ 7 = 72057594037927936 := by decide
        omega
      have hy8 : y < 256 := by
        have h2 := hgi.2
        rw [hy] at h2
        have h3 : y ≤ 255 := Int.ofNat_le.1 h2
        omega
      have hor := or8 x y hx56 hy8
      have hnext : num (out.take (i + 1)) = (x : Int) * 256 + (y : Int) := by
        rw [List.take_succ_eq_append_getElem hi, num_snoc, hx, hy]
      rw [hx]
      have HN := Aside0.mk hnext
      clear hnext hx hy hrd hgi hnl
      go_wp2_with fail
      go_roundg (out.length - (i + 1) + 1)
      case measure => have := HI.out; omega
      case rel => exact ⟨i + 1, by simp, by rw [HN.out], ⟨rfl, by omega⟩, rfl⟩
    · have d1 : decide ((i : Int) < (out.length : Int)) = false := decide_eq_false (by omega)
      have hil : i = out.length := by have := HI.out; omega
      go_wp2_with fail
      go_ret
      subst hil
      rw [List.take_length]
      exact ⟨rfl, HR.out, HK.out⟩

theorem rawO_neg (bs : List Int) (e : Int) : rawO bs e (-1) = [] := by
  unfold rawO
  split
  · rfl
  · rw [if_pos (by omega)]

set_option maxHeartbeats 1000000 in
theorem num_not {w : World} {g : Nat} {bs : List Int} {e : Int} (h : Rd w g bs e) {n : Int} (hn : ¬ wide n) : Calls Try.prog 14 #[.pointer (some ⟨g, 0, none⟩), .int .i64 n] w fun en w' => en = .returned (.int .u64 0) ∧ Rd w' g (rawB bs e (-1)) (rawE bs e (-1)) ∧ Keeps (fun k => k = g) w w' := by
  have hraw := raw_calls h (-1)
  rw [rawO_neg] at hraw
  have HRAW := Aside0.mk hraw
  have hr := right_calls n w
  rw [decide_eq_false hn] at hr
  have HW := Aside0.mk hr
  clear hr h hraw
  go_enter Try.func14, Try.ntmps14
  go_wp2_with fail
  refine HW.out.mono ?_
  rintro en w' ⟨rfl, rfl⟩
  go_wp2_with fail
  refine HRAW.out.mono ?_
  rintro en w1 ⟨v, rfl, hI, hfar, hrd, hk⟩
  obtain ⟨A, c, hv, hc, hC⟩ := hI
  replace hv : v = .slice A 0 c := hv
  subst hv
  have HR := Aside0.mk hrd
  have HK := Aside0.mk hk
  clear hC hrd hk hfar hc
  go_wp2_with fail
  go_loopg [5, 15] 1 (fun kq v5 v15 w' => v5 = .int .u64 0 ∧ v15 = .int .i64 0 ∧ w' = w1)
  case atStart => exact ⟨rfl, rfl, rfl⟩
  case round =>
    obtain ⟨rfl, rfl, rfl⟩ := hrel
    go_wp2_with fail
    go_ret
    exact ⟨rfl, HR.out, HK.out⟩

set_option maxHeartbeats 1000000 in
theorem num_nobody (n : Int) (w : World) : Calls Try.prog 14 #[.pointer none, .int .i64 n] w fun en w' => en = .returned (.int .u64 0) ∧ w = w' := by
  have hr := right_calls n w
  by_cases hn : wide n
  · have HW := Aside0.mk (show Calls Try.prog 27 #[.int .i64 n] w fun e w' => e = .returned (.bool true) ∧ w = w' by rw [decide_eq_true hn] at hr; exact hr)
    clear hr
    go_enter Try.func14, Try.ntmps14
    go_wp2_with fail
    refine HW.out.mono ?_
    rintro en w' ⟨rfl, rfl⟩
    go_wp2_with fail
    refine (raw_nobody _ w).mono ?_
    rintro en w1 ⟨rfl, hw⟩
    subst hw
    go_wp2_with fail
    go_loopg [5, 15] 1 (fun kq v5 v15 w' => v5 = .int .u64 0 ∧ v15 = .int .i64 0 ∧ w' = w)
    case atStart => exact ⟨rfl, rfl, rfl⟩
    case round =>
      obtain ⟨rfl, rfl, rfl⟩ := hrel
      go_wp2_with fail
      go_ret
      exact ⟨rfl, rfl⟩
  · have HW := Aside0.mk (show Calls Try.prog 27 #[.int .i64 n] w fun e w' => e = .returned (.bool false) ∧ w = w' by rw [decide_eq_false hn] at hr; exact hr)
    clear hr
    go_enter Try.func14, Try.ntmps14
    go_wp2_with fail
    refine HW.out.mono ?_
    rintro en w' ⟨rfl, rfl⟩
    go_wp2_with fail
    refine (raw_nobody _ w).mono ?_
    rintro en w1 ⟨rfl, hw⟩
    subst hw
    go_wp2_with fail
    go_loopg [5, 15] 1 (fun kq v5 v15 w' => v5 = .int .u64 0 ∧ v15 = .int .i64 0 ∧ w' = w)
    case atStart => exact ⟨rfl, rfl, rfl⟩
    case round =>
      obtain ⟨rfl, rfl, rfl⟩ := hrel
      go_wp2_with fail
      go_ret
      exact ⟨rfl, rfl⟩
end Go.Proofs.Ytceaddpbebaldaa.Word
