/- The reference's size and Is: what they tell of bytes is what their reading tells. -/
import Derived.Test.YtfpdapdnmkadeaaWireOP
import Derived.Test.YtfpdapdnmkadeaaI1
namespace Go.Proofs.Ytfpdapdnmkadeaa.Wire
open Go.RowKit Go.Proofs.YtfpdapdnmkadeaaW.PrintWords Go.Proofs.YtfpdapdnmkadeaaW.PrintLast Go.Proofs.YtfpdapdnmkadeaaW.PrintMore
open Go.Proofs.Ytfpdapdnmkadeaa Go.Proofs.Ytfpdapdnmkadeaa.Vals Go.Proofs.Ytfpdapdnmkadeaa.Word
open Go.Proofs.Ytfpdapdnmkadeaa.O (S52 k52 z52)
open Go.Proofs.Ytfpdapdnmkadeaa.I
set_option linter.unusedVariables false
set_option linter.unusedSimpArgs false

def gt (bs : List Int) (i : Nat) : Int := bs.getD i 0
theorem gt_bd {bs : List Int} (hb : Byte bs) (i : Nat) : 0 ≤ gt bs i ∧ gt bs i ≤ 255 := by
  unfold gt
  rw [List.getD_eq_getElem?_getD]
  by_cases h : i < bs.length
  · rw [List.getElem?_eq_getElem h]
    exact hb _ (List.getElem_mem h)
  · rw [List.getElem?_eq_none (by omega)]
    simp
theorem gt_drop (bs : List Int) (j i : Nat) : gt (bs.drop j) i = gt bs (j + i) := by
  unfold gt
  rw [List.getD_eq_getElem?_getD, List.getD_eq_getElem?_getD, List.getElem?_drop]
theorem bt_gt {bs : List Int} (hb : Byte bs) {i : Nat} (h : i < bs.length) : bt (strOfNums bs) (i : Int) = gt bs i := by
  have hbj := hb _ (List.getElem_mem h)
  have hs : i < (strOfNums bs).size := by rw [strOfNums_size]; exact h
  have e : (strOfNums bs)[i] = UInt8.ofNat (bs[i]).toNat := by
    show (strOfNums bs).data[i] = _
    simp [strOfNums]
  unfold bt gt
  simp only [Int.toNat_natCast]
  rw [dif_pos hs, e, UInt8.toNat_ofNat', Nat.mod_eq_of_lt (by omega), List.getD_eq_getElem?_getD, List.getElem?_eq_getElem h]
  simp only [Option.getD_some]
  omega
theorem num1 {c : List Int} (h : 1 ≤ c.length) : num (c.take 1) = gt c 0 := by
  match c, h with
  | a :: t, _ => simp [num, gt]
theorem num2 {c : List Int} (h : 2 ≤ c.length) : num (c.take 2) = gt c 0 * 256 + gt c 1 := by
  match c, h with
  | a :: b :: t, _ => simp [num, gt]
theorem num4 {c : List Int} (h : 4 ≤ c.length) : num (c.take 4) = ((gt c 0 * 256 + gt c 1) * 256 + gt c 2) * 256 + gt c 3 := by
  match c, h with
  | a :: b :: d :: e :: t, _ => simp [num, gt]
theorem raw_fwd {bs : List Int} {n : Nat} (h : n ≤ bs.length) : rawE bs 0 (n : Int) = 0 ∧ rawO bs 0 (n : Int) = bs.take n ∧ rawB bs 0 (n : Int) = bs.drop n := by
  unfold rawE rawO rawB
  have a1 : ¬ ((0 : Int) ≠ 0) := by simp
  have a2 : ¬ ((n : Int) < 0) := by omega
  have a3 : ¬ ((bs.length : Int) < (n : Int)) := by omega
  simp only [if_neg a1, if_neg a2, if_neg a3, Int.toNat_natCast]
  exact ⟨trivial, trivial, trivial⟩
theorem rd_fwd {k n : Nat} {c : List Int} (h1 : k ≤ c.length) (hn : num (c.take k) = (n : Int)) (h2 : k + n ≤ c.length) : rdE k c 0 = 0 ∧ rdB k c 0 = c.drop (k + n) := by
  obtain ⟨r1, r2, r3⟩ := raw_fwd h1
  obtain ⟨s1, s2, s3⟩ := raw_fwd (bs := c.drop k) (n := n) (by rw [List.length_drop]; omega)
  unfold rdE rdB
  simp only [r1, r2, r3, hn, Int.toNat_natCast, s1, s3, List.drop_drop]
  exact ⟨trivial, trivial⟩
theorem rd_len {k : Nat} {c : List Int} {e : Int} (h : rdE k c e = 0) : e = 0 ∧ k ≤ c.length ∧ k + (num (c.take k)).toNat ≤ c.length := by
  unfold rdE at h
  simp only at h
  obtain ⟨h1, h2, h3, h4⟩ := raw_back h
  obtain ⟨rfl, g2, g3, g4⟩ := raw_back h1
  rw [g3, g4, List.length_drop] at h2
  exact ⟨rfl, g2, by omega⟩
theorem rd_not {k n : Nat} {c : List Int} (hn : k ≤ c.length → num (c.take k) = (n : Int)) (h : c.length < k + n) : rdE k c 0 ≠ 0 := by
  intro h0
  obtain ⟨_, h1, h2⟩ := rd_len h0
  rw [hn h1, Int.toNat_natCast] at h2
  omega
theorem rdOp_cons {bs : List Int} (h : 1 ≤ bs.length) : rdOp bs 0 = rdK (gt bs 0) (bs.drop 1) 0 := by
  obtain ⟨r1, r2, r3⟩ := raw_fwd h
  unfold rdOp
  rw [r1, r2, r3, num1 h]
theorem rdK_no1 {K : Int} {c : List Int} (h : K = 1 ∨ K = 2 ∨ K = 3 ∨ K = 4) (h1 : rdE 1 c 0 ≠ 0) : (rdK K c 0).2.2.2 = false := by
  have e2 : ∀ k b, rdE k b (rdE 1 c 0) ≠ 0 := fun k b h0 => h1 (rd_len h0).1
  have e4 : ∀ b, rawE b (rdE 1 (rdB 1 c 0) (rdE 1 c 0)) ((4 : Nat) : Int) ≠ 0 := fun b h0 => e2 _ _ (raw_back h0).1
  rcases h with rfl | rfl | rfl | rfl
  · simp [rdK, e2]
  · simp [rdK, h1]
  · simp [rdK, h1]
  · unfold rdK
    rw [if_neg (by decide), if_neg (by decide), if_pos rfl]
    show (_ && _) = false
    rw [Bool.and_eq_false_iff, beq_eq_false_iff_ne]
    exact Or.inr (e4 _)

theorem wz {x : Int} (h0 : 0 ≤ x) (h1 : x < 9223372036854775808) : wrap64 x = x := by unfold wrap64; omega
theorem wadd (m j : Nat) (hm : m ≤ 281474976710656) (hj : j ≤ 281474976710656) : wrap64 ((m : Int) + (j : Int)) = ((m + j : Nat) : Int) := by rw [wz (by omega) (by omega)]; omega
section
variable {s : ByteArray} {L : Nat} {K : Int}
theorem j0_no (hsz : (s.size : Int) = (L : Int)) (k : Nat) (x : Int) : sluicegateref31_size.j0 (k + 1) s x false = sluicegateref31_size.j1 k s x := by
  simp only [sluicegateref31_size.j0, Bool.false_eq_true, if_false]
theorem j0_yes (hsz : (s.size : Int) = (L : Int)) (hL : 2 ≤ L) {n1 : Nat} (h1 : n1 ≤ 255) (hb1 : bt s 1 = (n1 : Int)) (k : Nat) (x : Int) : sluicegateref31_size.j0 (k + 1) s x true = sluicegateref31_size.j1 k s ((2 + n1 : Nat) : Int) := by
  simp only [sluicegateref31_size.j0, if_true, hsz]
  rw [if_neg (by omega), if_pos (by omega), hb1, wz (x := (n1 : Int)) (by omega) (by omega), show (2 : Int) = ((2 : Nat) : Int) from rfl, wadd 2 n1 (by omega) (by omega)]
theorem j0_short (hsz : (s.size : Int) = (L : Int)) (hL : L < 2) (k : Nat) (x : Int) : sluicegateref31_size.j0 (k + 1) s x true = some 0 := by
  simp only [sluicegateref31_size.j0, if_true, hsz]
  rw [if_pos (by omega)]
theorem j1_no (hsz : (s.size : Int) = (L : Int)) (hL : 1 ≤ L) (hb0 : bt s 0 = K) (hK : K ≠ 1) (k : Nat) (x : Int) : sluicegateref31_size.j1 (k + 1) s x = sluicegateref31_size.j2 k s x := by
  simp only [sluicegateref31_size.j1, hsz, hb0]
  rw [if_pos (by omega), if_neg hK]
theorem j1_short (hsz : (s.size : Int) = (L : Int)) (hL : 1 ≤ L) (hb0 : bt s 0 = 1) {m : Nat} (hm : m ≤ 140737488355328) (h : L < m + 2) (k : Nat) : sluicegateref31_size.j1 (k + 1) s (m : Int) = some 0 := by
  simp only [sluicegateref31_size.j1, hsz, hb0]
  rw [if_pos (by omega), if_pos trivial, show (2 : Int) = ((2 : Nat) : Int) from rfl, wadd m _ (by omega) (by omega), if_pos (by omega)]
theorem j1_yes (hsz : (s.size : Int) = (L : Int)) (hb0 : bt s 0 = 1) {m : Nat} (hm : m ≤ 140737488355328) (h : m + 2 ≤ L) {c d : Nat} (hc : c ≤ 255) (hd : d ≤ 255) (hbc : bt s (m : Int) = (c : Int)) (hbd : bt s ((m + 1 : Nat) : Int) = (d : Int)) (k : Nat) :
    sluicegateref31_size.j1 (k + 1) s (m : Int) = sluicegateref31_size.j2 k s ((m + 2 + 256 * c + d : Nat) : Int) := by
  have e1 : m ≤ 281474976710656 := by omega
  have e2 : m + 2 ≤ 281474976710656 := by omega
  have e3 : 256 * c ≤ 281474976710656 := by omega
  have e4 : m + 2 + 256 * c ≤ 281474976710656 := by omega
  have e5 : d ≤ 281474976710656 := by omega
  have e6 : (0 : Int) ≤ (c : Int) ∧ (c : Int) < 9223372036854775808 := by omega
  have e7 : (0 : Int) ≤ (d : Int) ∧ (d : Int) < 9223372036854775808 := by omega
  have e8 : (0 : Int) ≤ 256 * (c : Int) ∧ 256 * (c : Int) < 9223372036854775808 := by omega
  have i1 : (0 : Int) < (L : Int) := by omega
  have i2 : ¬ ((L : Int) < ((m + 2 : Nat) : Int)) := by omega
  have i3 : (0 : Int) ≤ (m : Int) := by omega
  have i4 : (m : Int) < (L : Int) := by omega
  have i5 : (0 : Int) ≤ ((m + 1 : Nat) : Int) := by omega
  have i6 : ((m + 1 : Nat) : Int) < (L : Int) := by omega
  have w1 : wrap64 ((m : Int) + 1) = ((m + 1 : Nat) : Int) := wadd m 1 e1 (by decide)
  have w2 : wrap64 ((m : Int) + 2) = ((m + 2 : Nat) : Int) := wadd m 2 e1 (by decide)
  have w4 : wrap64 (d : Int) = (d : Int) := wz e7.1 e7.2
  have w0 : wrap64 (c : Int) = (c : Int) := wz e6.1 e6.2
  have w3 : wrap64 (256 * (c : Int)) = ((256 * c : Nat) : Int) := wz e8.1 e8.2
  have w5 : wrap64 (((m + 2 : Nat) : Int) + ((256 * c : Nat) : Int)) = ((m + 2 + 256 * c : Nat) : Int) := wadd (m + 2) (256 * c) e2 e3
  have w6 : wrap64 (((m + 2 + 256 * c : Nat) : Int) + (d : Int)) = ((m + 2 + 256 * c + d : Nat) : Int) := wadd (m + 2 + 256 * c) d e4 e5
  simp only [sluicegateref31_size.j1, hsz, hb0, w1, w2, hbc, hbd, w0, w3, w4, w5, w6, if_pos i1, if_neg i2, if_pos i3, if_pos i4, if_pos i5, if_pos i6, if_true]
theorem j2_low (hsz : (s.size : Int) = (L : Int)) (hL : 1 ≤ L) (hb0 : bt s 0 = K) (hK : K < 1 ∨ K > 7) (k : Nat) (x : Int) : sluicegateref31_size.j2 (k + 1) s x = some 0 := by
  simp only [sluicegateref31_size.j2, hsz, hb0]
  rw [if_pos (by omega), if_neg (by omega)]
  rcases hK with h | h
  · rw [if_pos h]
  · rw [if_neg (by omega), if_pos h]
theorem j2_plain (hsz : (s.size : Int) = (L : Int)) (hL : 1 ≤ L) (hb0 : bt s 0 = K) (h1 : 1 ≤ K) (h7 : K ≤ 7) (h4 : K ≠ 4) (m : Nat) (k : Nat) : sluicegateref31_size.j2 (k + 1) s (m : Int) = some ((if L < m then 0 else m : Nat) : Int) := by
  simp only [sluicegateref31_size.j2, hsz, hb0]
  rw [if_pos (by omega), if_neg h4, if_neg (by omega), if_neg (by omega)]
  by_cases h : L < m
  · rw [if_pos (by omega), if_pos h]; rfl
  · rw [if_neg (by omega), if_neg h]
theorem j2_short (hsz : (s.size : Int) = (L : Int)) (hL : 1 ≤ L) (hb0 : bt s 0 = 4) {m : Nat} (hm : m ≤ 140737488355328) (h : L < m + 1) (k : Nat) : sluicegateref31_size.j2 (k + 1) s (m : Int) = some 0 := by
  simp only [sluicegateref31_size.j2, hsz, hb0]
  rw [if_pos (by omega), if_pos trivial, show (1 : Int) = ((1 : Nat) : Int) from rfl, wadd m _ (by omega) (by omega), if_pos (by omega)]
theorem j2_range (hsz : (s.size : Int) = (L : Int)) (hb0 : bt s 0 = 4) {m : Nat} (hm : m ≤ 140737488355328) (h : m + 1 ≤ L) {c : Nat} (hc : c ≤ 255) (hbc : bt s (m : Int) = (c : Int)) (k : Nat) :
    sluicegateref31_size.j2 (k + 1) s (m : Int) = some ((if L < m + 1 + c + 4 then 0 else if bt s ((m + 1 + c : Nat) : Int) > 127 then 0 else m + 1 + c + 4 : Nat) : Int) := by
  have e1 : m ≤ 281474976710656 := by omega
  have e2 : m + 1 ≤ 281474976710656 := by omega
  have e3 : c ≤ 281474976710656 := by omega
  have e4 : m + 1 + c ≤ 281474976710656 := by omega
  have e6 : (0 : Int) ≤ (c : Int) ∧ (c : Int) < 9223372036854775808 := by omega
  have e7 : (0 : Int) ≤ ((m + 1 + c + 4 : Nat) : Int) - 4 ∧ ((m + 1 + c + 4 : Nat) : Int) - 4 < 9223372036854775808 := by omega
  have e8 : ((m + 1 + c + 4 : Nat) : Int) - 4 = ((m + 1 + c : Nat) : Int) := by omega
  have i1 : (0 : Int) < (L : Int) := by omega
  have i2 : ¬ ((L : Int) < ((m + 1 : Nat) : Int)) := by omega
  have i3 : (0 : Int) ≤ (m : Int) := by omega
  have i4 : (m : Int) < (L : Int) := by omega
  have w1 : wrap64 ((m : Int) + 1) = ((m + 1 : Nat) : Int) := wadd m 1 e1 (by decide)
  have w4 : wrap64 (c : Int) = (c : Int) := wz e6.1 e6.2
  have w3 : wrap64 (((m + 1 : Nat) : Int) + (c : Int)) = ((m + 1 + c : Nat) : Int) := wadd (m + 1) c e2 e3
  have w5 : wrap64 ((((m + 1 + c : Nat) : Int)) + 4) = ((m + 1 + c + 4 : Nat) : Int) := wadd (m + 1 + c) 4 e4 (by decide)
  have w6 : wrap64 ((((m + 1 + c + 4 : Nat) : Int)) - 4) = ((m + 1 + c : Nat) : Int) := (wz e7.1 e7.2).trans e8
  simp only [sluicegateref31_size.j2, hsz, hb0, w1, hbc, w4, w3, w5, w6, if_pos i1, if_neg i2, if_pos i3, if_pos i4, if_true]
  rw [if_neg (by decide), if_neg (by decide)]
  clear w1 w3 w4 w5 w6
  by_cases h2 : L < m + 1 + c + 4
  · rw [if_pos (by omega), if_pos h2]; rfl
  · rw [if_neg (by omega), if_neg h2, if_pos (by omega), if_pos (by omega)]
    by_cases h3 : bt s ((m + 1 + c : Nat) : Int) > 127
    · rw [if_pos h3, if_pos h3]; rfl
    · rw [if_neg h3, if_neg h3]
end
/-- What size is told of bytes and what is read of them. -/
def Told1 (bs : List Int) (v : Option Int) (x : S52 × List Int × Int × Bool) : Prop := ∃ r : Nat, v = some (r : Int) ∧ (r = 0 → x.2.2.2 = false) ∧ (r ≠ 0 → r ≤ bs.length ∧ ∃ o, x = (o, bs.drop r, 0, true))
theorem Told1.no {bs : List Int} {v : Option Int} {x : S52 × List Int × Int × Bool} (h : v = some 0) (h2 : x.2.2.2 = false) : Told1 bs v x := ⟨0, h, fun _ => h2, fun h => absurd rfl h⟩

theorem size_put {bs : List Int} (hb : Byte bs) (hl : bs.length ≤ 140737488351232) (n1 : Nat) (h1 : n1 ≤ 255) (hK : gt bs 0 = 1) (hm : 2 + n1 ≤ bs.length) (hc1 : num ((bs.drop 1).take 1) = (n1 : Int)) (k : Nat) :
    Told1 bs (sluicegateref31_size.j1 (k + 2) (strOfNums bs) ((2 + n1 : Nat) : Int)) (rdK 1 (bs.drop 1) 0) := by
  have hsz : ((strOfNums bs).size : Int) = (bs.length : Int) := by rw [strOfNums_size]
  have hb0 : bt (strOfNums bs) 0 = 1 := (bt_gt (i := 0) hb (by omega)).trans hK
  obtain ⟨f1, f2⟩ := rd_fwd (c := bs.drop 1) (k := 1) (by rw [List.length_drop]; omega) hc1 (by rw [List.length_drop]; omega)
  rw [List.drop_drop, show 1 + (1 + n1) = 2 + n1 by omega] at f2
  have hrk : rdK 1 (bs.drop 1) 0 = (⟨1, rdS 1 (bs.drop 1) 0, rdS 2 (bs.drop (2 + n1)) 0, 0⟩, rdB 2 (bs.drop (2 + n1)) 0, rdE 2 (bs.drop (2 + n1)) 0, rdE 2 (bs.drop (2 + n1)) 0 == 0) := by
    unfold rdK; rw [if_pos rfl, f1, f2]
  rw [hrk]
  by_cases hs2 : bs.length < 2 + n1 + 2
  · refine Told1.no (j1_short hsz (by omega) hb0 (by omega) hs2 (k + 1)) ?_
    show (rdE 2 (bs.drop (2 + n1)) 0 == 0) = false
    rw [beq_eq_false_iff_ne]
    intro h
    have := (rd_len h).2.1
    rw [List.length_drop] at this
    omega
  · obtain ⟨c, hc⟩ := Int.eq_ofNat_of_zero_le (gt_bd hb (2 + n1)).1
    obtain ⟨d, hd⟩ := Int.eq_ofNat_of_zero_le (gt_bd hb (2 + n1 + 1)).1
    have hc255 := (gt_bd hb (2 + n1)).2
    have hd255 := (gt_bd hb (2 + n1 + 1)).2
    have hc2 : num ((bs.drop (2 + n1)).take 2) = ((256 * c + d : Nat) : Int) := by
      rw [num2 (by rw [List.length_drop]; omega), gt_drop, gt_drop]
      show gt bs (2 + n1) * 256 + gt bs (2 + n1 + 1) = _
      omega
    rw [j1_yes hsz hb0 (m := 2 + n1) (by omega) (by omega) (c := c) (d := d) (by omega) (by omega) ((bt_gt hb (by omega)).trans hc) ((bt_gt hb (by omega)).trans hd), j2_plain hsz (by omega) hb0 (by decide) (by decide) (by decide)]
    by_cases hs3 : bs.length < 2 + n1 + 2 + 256 * c + d
    · rw [if_pos hs3]
      refine Told1.no rfl ?_
      show (rdE 2 (bs.drop (2 + n1)) 0 == 0) = false
      rw [beq_eq_false_iff_ne]
      exact rd_not (k := 2) (fun _ => hc2) (by rw [List.length_drop]; omega)
    · obtain ⟨f3, f4⟩ := rd_fwd (c := bs.drop (2 + n1)) (k := 2) (by rw [List.length_drop]; omega) hc2 (by rw [List.length_drop]; omega)
      rw [if_neg hs3]
      refine ⟨2 + n1 + 2 + 256 * c + d, rfl, fun h => by omega, fun _ => ⟨by omega, ?_⟩⟩
      rw [f3, f4, List.drop_drop, show 2 + n1 + (2 + (256 * c + d)) = 2 + n1 + 2 + 256 * c + d by omega]
      exact ⟨_, rfl⟩
theorem size_key {bs : List Int} (hb : Byte bs) (n1 : Nat) {K : Int} (h23 : K = 2 ∨ K = 3) (hK : gt bs 0 = K) (hm : 2 + n1 ≤ bs.length) (hc1 : num ((bs.drop 1).take 1) = (n1 : Int)) (k : Nat) :
    Told1 bs (sluicegateref31_size.j1 (k + 2) (strOfNums bs) ((2 + n1 : Nat) : Int)) (rdK K (bs.drop 1) 0) := by
  have hsz : ((strOfNums bs).size : Int) = (bs.length : Int) := by rw [strOfNums_size]
  have hb0 : bt (strOfNums bs) 0 = K := (bt_gt (i := 0) hb (by omega)).trans hK
  obtain ⟨f1, f2⟩ := rd_fwd (c := bs.drop 1) (k := 1) (by rw [List.length_drop]; omega) hc1 (by rw [List.length_drop]; omega)
  rw [List.drop_drop, show 1 + (1 + n1) = 2 + n1 by omega] at f2
  rw [j1_no hsz (by omega) hb0 (by omega), j2_plain hsz (by omega) hb0 (by omega) (by omega) (by omega), if_neg (by omega)]
  refine ⟨2 + n1, rfl, fun h => by omega, fun _ => ⟨hm, ?_⟩⟩
  unfold rdK
  rw [if_neg (by omega), if_pos h23, f1, f2]
  exact ⟨_, rfl⟩
theorem size_range {bs : List Int} (hb : Byte bs) (hl : bs.length ≤ 140737488351232) (n1 : Nat) (h1 : n1 ≤ 255) (hK : gt bs 0 = 4) (hm : 2 + n1 ≤ bs.length) (hc1 : num ((bs.drop 1).take 1) = (n1 : Int)) (k : Nat) :
    Told1 bs (sluicegateref31_size.j1 (k + 2) (strOfNums bs) ((2 + n1 : Nat) : Int)) (rdK 4 (bs.drop 1) 0) := by
  have hsz : ((strOfNums bs).size : Int) = (bs.length : Int) := by rw [strOfNums_size]
  have hb0 : bt (strOfNums bs) 0 = 4 := (bt_gt (i := 0) hb (by omega)).trans hK
  obtain ⟨f1, f2⟩ := rd_fwd (c := bs.drop 1) (k := 1) (by rw [List.length_drop]; omega) hc1 (by rw [List.length_drop]; omega)
  rw [List.drop_drop, show 1 + (1 + n1) = 2 + n1 by omega] at f2
  have hrk : rdK 4 (bs.drop 1) 0 = (⟨4, rdS 1 (bs.drop 1) 0, rdS 1 (bs.drop (2 + n1)) 0, num (rawO (rdB 1 (bs.drop (2 + n1)) 0) (rdE 1 (bs.drop (2 + n1)) 0) ((4 : Nat) : Int))⟩, rawB (rdB 1 (bs.drop (2 + n1)) 0) (rdE 1 (bs.drop (2 + n1)) 0) ((4 : Nat) : Int), rawE (rdB 1 (bs.drop (2 + n1)) 0) (rdE 1 (bs.drop (2 + n1)) 0) ((4 : Nat) : Int),
      decide (num (rawO (rdB 1 (bs.drop (2 + n1)) 0) (rdE 1 (bs.drop (2 + n1)) 0) ((4 : Nat) : Int)) ≤ 2147483647) && (rawE (rdB 1 (bs.drop (2 + n1)) 0) (rdE 1 (bs.drop (2 + n1)) 0) ((4 : Nat) : Int) == 0)) := by
    unfold rdK; rw [if_neg (by decide), if_neg (by decide), if_pos rfl, f1, f2]
  rw [hrk, j1_no hsz (by omega) hb0 (by decide)]
  have hno : rawE (rdB 1 (bs.drop (2 + n1)) 0) (rdE 1 (bs.drop (2 + n1)) 0) ((4 : Nat) : Int) ≠ 0 → (decide (num (rawO (rdB 1 (bs.drop (2 + n1)) 0) (rdE 1 (bs.drop (2 + n1)) 0) ((4 : Nat) : Int)) ≤ 2147483647) && (rawE (rdB 1 (bs.drop (2 + n1)) 0) (rdE 1 (bs.drop (2 + n1)) 0) ((4 : Nat) : Int) == 0)) = false := by
    intro h
    rw [Bool.and_eq_false_iff, beq_eq_false_iff_ne]
    exact Or.inr h
  by_cases hs2 : bs.length < 2 + n1 + 1
  · refine Told1.no (j2_short hsz (by omega) hb0 (by omega) hs2 k) (hno fun h => ?_)
    have := (rd_len (raw_back h).1).2.1
    rw [List.length_drop] at this
    omega
  · obtain ⟨c, hc⟩ := Int.eq_ofNat_of_zero_le (gt_bd hb (2 + n1)).1
    have hc255 := (gt_bd hb (2 + n1)).2
    have hc2 : num ((bs.drop (2 + n1)).take 1) = (c : Int) := by rw [num1 (by rw [List.length_drop]; omega), gt_drop]; exact hc
    rw [j2_range hsz hb0 (m := 2 + n1) (by omega) (by omega) (c := c) (by omega) ((bt_gt hb (by omega)).trans hc)]
    by_cases hs3 : bs.length < 2 + n1 + 1 + c + 4
    · rw [if_pos hs3]
      refine Told1.no rfl (hno fun h => ?_)
      obtain ⟨g1, g2, _⟩ := raw_back h
      by_cases hs4 : bs.length < 2 + n1 + 1 + c
      · exact rd_not (k := 1) (fun _ => hc2) (by rw [List.length_drop]; omega) g1
      · obtain ⟨f3, f4⟩ := rd_fwd (c := bs.drop (2 + n1)) (k := 1) (by rw [List.length_drop]; omega) hc2 (by rw [List.length_drop]; omega)
        rw [f4, List.drop_drop, List.length_drop] at g2
        omega
    · obtain ⟨f3, f4⟩ := rd_fwd (c := bs.drop (2 + n1)) (k := 1) (by rw [List.length_drop]; omega) hc2 (by rw [List.length_drop]; omega)
      rw [List.drop_drop, show 2 + n1 + (1 + c) = 2 + n1 + 1 + c by omega] at f4
      obtain ⟨r1, r2, r3⟩ := raw_fwd (bs := bs.drop (2 + n1 + 1 + c)) (n := 4) (by rw [List.length_drop]; omega)
      have hnum := num4 (c := bs.drop (2 + n1 + 1 + c)) (by rw [List.length_drop]; omega)
      simp only [gt_drop, Nat.add_zero] at hnum
      have q0 := gt_bd hb (2 + n1 + 1 + c)
      have q1 := gt_bd hb (2 + n1 + 1 + c + 1)
      have q2 := gt_bd hb (2 + n1 + 1 + c + 2)
      have q3 := gt_bd hb (2 + n1 + 1 + c + 3)
      rw [if_neg hs3, bt_gt hb (i := 2 + n1 + 1 + c) (by omega), f3, f4, r1, r2, r3, hnum]
      by_cases h127 : gt bs (2 + n1 + 1 + c) > 127
      · rw [if_pos h127]
        refine Told1.no rfl ?_
        show (decide _ && _) = false
        rw [decide_eq_false (by omega)]
        rfl
      · rw [if_neg h127]
        refine ⟨2 + n1 + 1 + c + 4, rfl, fun h => by omega, fun _ => ⟨by omega, ?_⟩⟩
        rw [decide_eq_true (by omega), List.drop_drop]
        exact ⟨_, rfl⟩
theorem size_is {bs : List Int} (hb : Byte bs) (hl : bs.length ≤ 140737488351232) (k : Nat) (hk : 3 ≤ k) : Told1 bs (sluicegateref31_size.f k (strOfNums bs)) (rdOp bs 0) := by
  obtain ⟨k, rfl⟩ : ∃ m, k = m + 3 := ⟨k - 3, by omega⟩
  have hsz : ((strOfNums bs).size : Int) = (bs.length : Int) := by rw [strOfNums_size]
  unfold sluicegateref31_size.f
  rw [hsz]
  by_cases h0 : bs.length = 0
  · have hnil : bs = [] := List.length_eq_zero_iff.1 h0
    rw [if_pos (by omega)]
    subst hnil
    exact Told1.no rfl (by simp [rdOp, rdK, rawO, num])
  · rw [if_neg (by omega), if_pos (by omega)]
    have hK := gt_bd hb 0
    have hb0 : bt (strOfNums bs) 0 = gt bs 0 := bt_gt (i := 0) hb (by omega)
    rw [hb0, rdOp_cons (by omega)]
    obtain ⟨K, hKK⟩ : ∃ K, gt bs 0 = K := ⟨_, rfl⟩
    rw [hKK] at hK hb0 ⊢
    by_cases h17 : K < 1 ∨ K > 7
    · refine Told1.no ?_ (by unfold rdK; rw [if_neg (by omega), if_neg (by omega), if_neg (by omega), if_neg (by omega)])
      have hj : sluicegateref31_size.j0 (k + 3) (strOfNums bs) 1 false = some 0 := by
        rw [j0_no hsz, j1_no hsz (by omega) hb0 (by omega), j2_low hsz (by omega) hb0 h17]
      rcases h17 with h | h
      · rw [if_neg (by omega)]; exact hj
      · rw [if_pos (by omega), decide_eq_false (by omega)]; exact hj
    · rw [if_pos (by omega)]
      by_cases h5 : K > 4
      · rw [decide_eq_false (by omega), j0_no hsz, j1_no hsz (by omega) hb0 (by omega), show (1 : Int) = ((1 : Nat) : Int) from rfl, j2_plain hsz (by omega) hb0 (by omega) (by omega) (by omega), if_neg (by omega)]
        refine ⟨1, rfl, fun h => absurd h (by decide), fun _ => ⟨by omega, ⟨K, ⟨#[]⟩, ⟨#[]⟩, 0⟩, ?_⟩⟩
        unfold rdK
        rw [if_neg (by omega), if_neg (by omega), if_neg (by omega), if_pos (by omega)]
        rfl
      · rw [decide_eq_true (by omega)]
        have hK4 : K = 1 ∨ K = 2 ∨ K = 3 ∨ K = 4 := by omega
        by_cases h2 : bs.length < 2
        · refine Told1.no (j0_short hsz h2 _ _) (rdK_no1 hK4 (fun h => ?_))
          have := (rd_len h).2.1
          rw [List.length_drop] at this
          omega
        · have hn255 := (gt_bd hb 1).2
          obtain ⟨n1, hn1⟩ := Int.eq_ofNat_of_zero_le (gt_bd hb 1).1
          rw [hn1] at hn255
          have hc1 : num ((bs.drop 1).take 1) = (n1 : Int) := by rw [num1 (by rw [List.length_drop]; omega), gt_drop]; exact hn1
          rw [j0_yes hsz (by omega) (n1 := n1) (by omega) ((bt_gt (i := 1) hb (by omega)).trans hn1)]
          by_cases hs1 : bs.length < 2 + n1
          · refine Told1.no ?_ (rdK_no1 hK4 (rd_not (k := 1) (fun _ => hc1) (by rw [List.length_drop]; omega)))
            rcases hK4 with h | h | h | h
            · subst h; exact j1_short hsz (by omega) hb0 (by omega) (by omega) _
            · rw [j1_no hsz (by omega) hb0 (by omega), j2_plain hsz (by omega) hb0 (by omega) (by omega) (by omega), if_pos hs1]; rfl
            · rw [j1_no hsz (by omega) hb0 (by omega), j2_plain hsz (by omega) hb0 (by omega) (by omega) (by omega), if_pos hs1]; rfl
            · subst h; rw [j1_no hsz (by omega) hb0 (by omega)]; exact j2_short hsz (by omega) hb0 (by omega) (by omega) _
          · rcases hK4 with h | h | h | h
            · subst h; exact size_put hb hl n1 (by omega) hKK (by omega) hc1 k
            · exact size_key hb n1 (Or.inl h) hKK (by omega) hc1 k
            · exact size_key hb n1 (Or.inr h) hKK (by omega) hc1 k
            · subst h; exact size_range hb hl n1 (by omega) hKK (by omega) hc1 k

theorem str_drop (bs : List Int) (j : Nat) : (strOfNums bs).extract j (strOfNums bs).size = strOfNums (bs.drop j) := by
  apply ByteArray.ext
  rw [ByteArray.data_extract]
  apply Array.toList_inj.1
  rw [strOfNums_size]
  simp [strOfNums]
  rw [List.take_of_length_le (by simp)]
theorem rOs_more {d : Nat} {bs b' : List Int} {o : S52} (h : rdOp bs 0 = (o, b', 0, true)) : rOs (d + 1) bs 0 = (rOs d b' 0).map (fun r => (o :: r.1, r.2)) := by
  show (if (rdOp bs 0).2.2.2 = true then _ else none) = _
  rw [h]
  rfl
theorem rOs_stop {d : Nat} {bs : List Int} (h : (rdOp bs 0).2.2.2 = false) : rOs (d + 1) bs 0 = none := by
  show (if (rdOp bs 0).2.2.2 = true then _ else none) = _
  rw [h]
  rfl
theorem is_l0 (n : Nat) (hn : n ≤ 65536) : ∀ (d i k : Nat) (bs : List Int), i + d = n → d + 3 < k → Byte bs → bs.length ≤ 140737488351232 →
    ∃ r, sluicegateref31_Is.l0 k (strOfNums bs) (n : Int) (i : Int) = some r ∧ (r = true → ∃ l, rOs d bs 0 = some (l, [], 0)) ∧ (r = false → ∀ l, rOs d bs 0 ≠ some (l, [], 0)) := by
  intro d
  induction d with
  | zero =>
    intro i k bs hi hk hb hl
    obtain ⟨k, rfl⟩ : ∃ m, k = m + 1 := ⟨k - 1, by omega⟩
    simp only [sluicegateref31_Is.l0]
    rw [if_neg (by omega)]
    refine ⟨_, rfl, fun h => ?_, fun h l h2 => ?_⟩
    · rw [beq_iff_eq, nil_iff, strOfNums_size] at h
      rw [List.length_eq_zero_iff.1 h]
      exact ⟨[], rfl⟩
    · rw [beq_eq_false_iff_ne] at h
      apply h
      rw [nil_iff, strOfNums_size]
      simp only [rOs, Option.some.injEq, Prod.mk.injEq] at h2
      rw [h2.2.1]
      rfl
  | succ d ih =>
    intro i k bs hi hk hb hl
    obtain ⟨k, rfl⟩ : ∃ m, k = m + 1 := ⟨k - 1, by omega⟩
    obtain ⟨r, h1, h2, h3⟩ := size_is hb hl k (by omega)
    simp only [sluicegateref31_Is.l0]
    rw [if_pos (by omega), h1, Option.bind_some]
    by_cases hr : r = 0
    · refine ⟨false, by rw [if_pos (by omega)], (fun h => by cases h), fun _ l h4 => ?_⟩
      rw [rOs_stop (h2 hr)] at h4
      cases h4
    · obtain ⟨h4, o, h5⟩ := h3 hr
      have hsz : ((strOfNums bs).size : Int) = (bs.length : Int) := by rw [strOfNums_size]
      rw [if_neg (by omega), if_pos (by omega), hsz, if_pos (by omega), Int.toNat_natCast, str_drop]
      have hw : wrap64 ((i : Int) + 1) = ((i + 1 : Nat) : Int) := wadd i 1 (by omega) (by decide)
      rw [hw]
      obtain ⟨q, g1, g2, g3⟩ := ih (i + 1) k (bs.drop r) (by clear hw h1; omega) (by clear hw h1; omega) (hb.drop r) (by rw [List.length_drop]; clear hw h1; omega)
      refine ⟨q, g1, fun h => ?_, fun h l h6 => ?_⟩
      · obtain ⟨l, hl2⟩ := g2 h
        exact ⟨o :: l, by rw [rOs_more h5, hl2]; rfl⟩
      · rw [rOs_more h5] at h6
        obtain ⟨⟨l2, x⟩, h7, h8⟩ := Option.map_eq_some_iff.1 h6
        simp only [Prod.mk.injEq] at h8
        obtain ⟨_, rfl⟩ := h8
        exact g3 h l2 h7
theorem is_is {b : List Int} (hb : Byte b) (hl : b.length ≤ 140737488351232) : ∃ r, sluicegateref31_Is.f 65542 (strOfNums b) = some r ∧ (r = true → ∃ l, okO b l) ∧ (r = false → ∀ l, ¬ okO b l) := by
  have hsz : ((strOfNums b).size : Int) = (b.length : Int) := by rw [strOfNums_size]
  have hj : sluicegateref31_Is.j0 65542 (strOfNums b) true = some false := by simp only [sluicegateref31_Is.j0, if_true]
  unfold sluicegateref31_Is.f
  rw [hsz]
  by_cases h4 : b.length < 4
  · refine ⟨false, by rw [if_pos (by omega)]; exact hj, (fun h => by cases h), fun _ l h => ?_⟩
    obtain ⟨i1, _⟩ := rOs_back _ _ _ _ _ (hb.rawB _ _) h.2
    have := (raw_back i1).2.1
    omega
  · obtain ⟨r1, r2, r3⟩ := raw_fwd (bs := b) (n := 4) (by omega)
    have hnum := num4 (c := b) (by omega)
    have q0 := gt_bd hb 0
    have q1 := gt_bd hb 1
    have q2 := gt_bd hb 2
    have q3 := gt_bd hb 3
    have t0 : bt (strOfNums b) 0 = gt b 0 := bt_gt (i := 0) hb (by omega)
    have t1 : bt (strOfNums b) 1 = gt b 1 := bt_gt (i := 1) hb (by omega)
    have t2 : bt (strOfNums b) 2 = gt b 2 := bt_gt (i := 2) hb (by omega)
    have t3 : bt (strOfNums b) 3 = gt b 3 := bt_gt (i := 3) hb (by omega)
    rw [t0, t1, t2, t3]
    have hnO : nO b = (((gt b 0 * 256 + gt b 1) * 256 + gt b 2) * 256 + gt b 3).toNat := by unfold nO; rw [r2, hnum]
    have hok : ∀ l, okO b l ↔ nO b ≤ 65536 ∧ rOs (nO b) (b.drop 4) 0 = some (l, [], 0) := fun l => by unfold okO; rw [r1, r3]
    generalize gt b 0 = g0 at *
    generalize gt b 1 = g1 at *
    generalize gt b 2 = g2 at *
    generalize gt b 3 = g3 at *
    have hno : 65536 < nO b → ∃ r, (some false : Option Bool) = some r ∧ (r = true → ∃ l, okO b l) ∧ (r = false → ∀ l, ¬ okO b l) := fun h => ⟨false, rfl, (fun h => by cases h), fun _ l h2 => by have := ((hok l).1 h2).1; omega⟩
    have hgo : nO b ≤ 65536 → g0 = 0 → ∃ r, sluicegateref31_Is.j0 65542 (strOfNums b) false = some r ∧ (r = true → ∃ l, okO b l) ∧ (r = false → ∀ l, ¬ okO b l) := by
      intro h h0
      have w1 : wrap64 g1 = g1 := wz (by omega) (by omega)
      have w2 : wrap64 g2 = g2 := wz (by omega) (by omega)
      have w3 : wrap64 g3 = g3 := wz (by omega) (by omega)
      have w4 : wrap64 (65536 * g1) = 65536 * g1 := wz (by omega) (by omega)
      have w5 : wrap64 (256 * g2) = 256 * g2 := wz (by omega) (by omega)
      have w6 : wrap64 (65536 * g1 + 256 * g2) = 65536 * g1 + 256 * g2 := wz (by omega) (by omega)
      have w7 : wrap64 (65536 * g1 + 256 * g2 + g3) = 65536 * g1 + 256 * g2 + g3 := wz (by omega) (by omega)
      have w8 : 65536 * g1 + 256 * g2 + g3 = ((nO b : Nat) : Int) := by clear w1 w2 w3 w4 w5 w6 w7; omega
      have w9 : wrap64 ((nO b : Nat) : Int) = ((nO b : Nat) : Int) := by rw [← w8]; exact w7
      have i1 : (1 : Int) < (b.length : Int) := by clear w1 w2 w3 w4 w5 w6 w7 w9; omega
      have i2 : (2 : Int) < (b.length : Int) := by clear w1 w2 w3 w4 w5 w6 w7 w9; omega
      have i3 : (3 : Int) < (b.length : Int) := by clear w1 w2 w3 w4 w5 w6 w7 w9; omega
      have i4 : (4 : Int) ≤ (b.length : Int) := by clear w1 w2 w3 w4 w5 w6 w7 w9; omega
      simp only [sluicegateref31_Is.j0, Bool.false_eq_true, if_false, hsz, t1, t2, t3, w1, w2, w3, w4, w5, w6, w7, w8, w9, if_pos i1, if_pos i2, if_pos i3, if_pos i4, str_drop]
      obtain ⟨q, g1, g2, g3⟩ := is_l0 (nO b) h (nO b) 0 65541 (b.drop 4) (by clear w1 w2 w3 w4 w5 w6 w7 w9; omega) (by clear w1 w2 w3 w4 w5 w6 w7 w9; omega) (hb.drop 4) (by rw [List.length_drop]; clear w1 w2 w3 w4 w5 w6 w7 w9; omega)
      refine ⟨q, g1, fun hh => ?_, fun hh l h2 => ?_⟩
      · obtain ⟨l, hl2⟩ := g2 hh
        exact ⟨l, (hok l).2 ⟨h, hl2⟩⟩
      · exact g3 hh l ((hok l).1 h2).2
    rw [if_neg (by omega), if_pos (by omega)]
    by_cases c0 : g0 > 0
    · rw [if_pos c0, hj]; exact hno (by omega)
    · rw [if_neg c0, if_pos (by omega)]
      by_cases c1 : g1 > 1
      · rw [if_pos c1, hj]; exact hno (by omega)
      · rw [if_neg c1]
        by_cases c2 : g1 = 1
        · rw [if_pos c2, if_pos (by omega)]
          by_cases c3 : g2 > 0
          · rw [if_pos c3, hj]; exact hno (by omega)
          · rw [if_neg c3, if_pos (by omega)]
            by_cases c4 : g3 > 0
            · rw [decide_eq_true c4, hj]; exact hno (by omega)
            · rw [decide_eq_false c4]; exact hgo (by omega) (by omega)
        · rw [if_neg c2]; exact hgo (by omega) (by omega)
theorem is_calls {w : World} {b : List Int} (hb : Byte b) (hl : b.length ≤ 140737488351232) : ∃ r, Calls Try.prog 21 #[.string (strOfNums b)] w (fun e w' => e = .returned (.bool r) ∧ Below w.heap.size w w') ∧ (r = true → ∃ l, okO b l) ∧ (r = false → ∀ l, ¬ okO b l) := by
  obtain ⟨r, h1, h2, h3⟩ := is_is hb hl
  exact ⟨r, (sluicegateref31_Is.calls 65542 (strOfNums b) r w h1).mono (fun e w' ⟨he, hd⟩ => ⟨he, hd.below⟩), h2, h3⟩
end Go.Proofs.Ytfpdapdnmkadeaa.Wire
