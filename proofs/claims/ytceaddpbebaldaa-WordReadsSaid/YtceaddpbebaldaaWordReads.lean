/- WordReads: what the law's call comes to. -/
import Derived.Test.YtceaddpbebaldaaWordRef3
namespace Go.Proofs.Ytceaddpbebaldaa.Word
open Go.RowKit Go.Proofs.YtceaddpbebaldaaW.PrintWords Go.Proofs.YtceaddpbebaldaaW.PrintLast Go.Proofs.YtceaddpbebaldaaW.PrintMore
open Go.Proofs.Ytceaddpbebaldaa Go.Proofs.Ytceaddpbebaldaa.Vals
set_option linter.unusedVariables false
set_option linter.unusedSimpArgs false

abbrev kAct : Kd (Int × Int × Int) := Kd.pair (Kd.int .i64) (Kd.pair (Kd.int .i64) (Kd.int .i64))
theorem act_at {w : World} {A : Option Addr} {n : Nat} {xs : List (Int × Int × Int)} (h : Kd.C kAct w A n xs) {i : Nat} (hi : i < n) (hx : i < xs.length) :
    ∃ ad, A = some ad ∧ w.cell? (ad.add (i * 3)) = some (.int .i64 (xs[i]).1) ∧ w.cell? ⟨(ad.add (i * 3)).block, (ad.add (i * 3)).off + 1, none⟩ = some (.int .i64 (xs[i]).2.1) ∧ w.cell? ⟨(ad.add (i * 3)).block, (ad.add (i * 3)).off + 2, none⟩ = some (.int .i64 (xs[i]).2.2) := by
  obtain ⟨ad, c, e, _, hK, hc0⟩ := Kd.C_get h ((0, 0, 0) : Int × Int × Int) (i : Int) (by omega) (by omega)
  rw [Int.toNat_natCast, List.getD_eq_getElem?_getD, List.getElem?_eq_getElem hx] at hK
  obtain ⟨c0, c1, rfl, h0, c2, c3, rfl, h2, h3⟩ := hK
  have h0 : c0 = [Value.int .i64 (xs[i]).1] := h0
  have h2 : c2 = [Value.int .i64 (xs[i]).2.1] := h2
  have h3 : c3 = [Value.int .i64 (xs[i]).2.2] := h3
  subst h0; subst h2; subst h3
  have hc : ∀ (j : Nat) (u : Value), ([Value.int .i64 (xs[i]).1] ++ ([Value.int .i64 (xs[i]).2.1] ++ [Value.int .i64 (xs[i]).2.2]))[j]? = some u → w.cell? (ad.add (i * 3 + j)) = some u := fun j u hj => by
    have := hc0 j u hj
    rw [Int.toNat_natCast] at this
    exact this
  exact ⟨ad, e, hc 0 _ rfl, by rw [← add_field _ _ 1 (by omega)]; exact hc 1 _ rfl, by rw [← add_field _ _ 2 (by omega)]; exact hc 2 _ rfl⟩

/-- What the calls leave, what they answer. -/
def numB (bs : List Int) (e n : Int) : List Int := if wide n then rawB bs e n else []
def numE (bs : List Int) (e n : Int) : Int := if wide n then rawE bs e n else spE e 2
def numV (bs : List Int) (e n : Int) : Int := if wide n then num (rawO bs e n) else 0
def zerB (bs : List Int) (e n : Int) : List Int := if (rawO bs e n).any (fun c => c != 0) then [] else rawB bs e n
def zerE (bs : List Int) (e n : Int) : Int := if (rawO bs e n).any (fun c => c != 0) then spE (rawE bs e n) 3 else rawE bs e n
def txtB (bs : List Int) (e n m : Int) : List Int := if n < 0 ∨ m < n then [] else textB (rawO bs e m) (rawB bs e m) n.toNat m.toNat
def txtE (bs : List Int) (e n m : Int) : Int := if n < 0 ∨ m < n then spE e 2 else textE (rawO bs e m) (rawE bs e m) n.toNat m.toNat
def txtS (bs : List Int) (e n m : Int) : ByteArray := if n < 0 ∨ m < n then ByteArray.empty else textS (rawO bs e m) n.toNat m.toNat

/-- Sound: bytes, and where an error stands none are left. -/
def Sound (bs : List Int) (e : Int) : Prop := Byte bs ∧ bs.length ≤ 3000 ∧ (e ≠ 0 → bs = [])
theorem Sound.raw {bs : List Int} {e : Int} (h : Sound bs e) (n : Int) : Sound (rawB bs e n) (rawE bs e n) := by
  refine ⟨h.1.rawB e n, ?_, ?_⟩
  · have := h.2.1
    unfold rawB
    repeat' split
    all_goals first | (simp; done) | omega | (simp; omega)
  · unfold rawB rawE
    by_cases he : e ≠ 0
    · rw [if_pos he, if_pos he]; exact h.2.2
    · rw [if_neg he, if_neg he]
      by_cases h1 : n < 0
      · rw [if_pos h1, if_pos h1]; exact fun _ => rfl
      · rw [if_neg h1, if_neg h1]
        by_cases h2 : (bs.length : Int) < n
        · rw [if_pos h2, if_pos h2]; exact fun _ => rfl
        · rw [if_neg h2, if_neg h2]; exact fun h => absurd rfl h
theorem Sound.none (e : Int) : Sound [] e := ⟨Byte.nil, by simp, fun _ => rfl⟩
theorem Sound.num {bs : List Int} {e : Int} (h : Sound bs e) (n : Int) : Sound (numB bs e n) (numE bs e n) := by
  unfold numB numE
  split
  · exact h.raw n
  · exact Sound.none _
theorem Sound.zer {bs : List Int} {e : Int} (h : Sound bs e) (n : Int) : Sound (zerB bs e n) (zerE bs e n) := by
  unfold zerB zerE
  split
  · exact Sound.none _
  · exact h.raw n
theorem Sound.txt {bs : List Int} {e : Int} (h : Sound bs e) (n m : Int) : Sound (txtB bs e n m) (txtE bs e n m) := by
  unfold txtB txtE
  split
  · exact Sound.none _
  · unfold textB textE
    split
    · exact h.raw m
    · split
      · exact Sound.none _
      · exact h.raw m

theorem num_any {w : World} {g : Nat} {bs : List Int} {e : Int} (h : Rd w g bs e) (hs : Sound bs e) (n : Int) : Calls Try.prog 14 #[.pointer (some ⟨g, 0, none⟩), .int .i64 n] w fun en w' => en = .returned (.int .u64 (numV bs e n)) ∧ Rd w' g (numB bs e n) (numE bs e n) ∧ Keeps (fun k => k = g) w w' := by
  unfold numV numB numE
  by_cases hn : wide n
  · rw [if_pos hn, if_pos hn, if_pos hn]
    exact num_wide h hs.1 hn
  · rw [if_neg hn, if_neg hn, if_neg hn]
    have h1 := num_not h hn
    have e1 : rawB bs e (-1) = [] := by
      unfold rawB
      by_cases he : e ≠ 0
      · rw [if_pos he]; exact hs.2.2 he
      · rw [if_neg he, if_pos (by decide)]
    have e2 : rawE bs e (-1) = spE e 2 := by
      unfold rawE spE
      by_cases he : e = 0
      · rw [if_neg (by simp [he]), if_pos (by decide), if_pos he]
      · rw [if_pos he, if_neg he]
    rwa [e1, e2] at h1
theorem rnum_any {w : World} {v : Value} {bs : List Int} {e : Int} (h : Bys bs v w) (hs : Sound bs e) (n : Int) : Calls Try.prog 16 #[.agg #[v, .int .i64 e], .int .i64 n] w (NumPost2 w (numB bs e n) (numE bs e n) (numV bs e n)) := by
  unfold numV numB numE
  by_cases hn : wide n
  · rw [if_pos hn, if_pos hn, if_pos hn]
    exact rnum_wide e h hs.1 hn
  · rw [if_neg hn, if_neg hn, if_neg hn]
    exact rnum_not e h hn
theorem text_any {w : World} {g : Nat} {bs : List Int} {e : Int} (h : Rd w g bs e) (n m : Int) : Calls Try.prog 20 #[.pointer (some ⟨g, 0, none⟩), .int .i64 n, .int .i64 m] w (TextPost w g (txtB bs e n m) (txtE bs e n m) (txtS bs e n m)) := by
  unfold txtB txtE txtS
  by_cases hn : n < 0 ∨ m < n
  · rw [if_pos hn, if_pos hn, if_pos hn]
    exact text_bad h hn
  · rw [if_neg hn, if_neg hn, if_neg hn]
    obtain ⟨a, rfl⟩ := Int.eq_ofNat_of_zero_le (by omega : 0 ≤ n)
    obtain ⟨b, rfl⟩ := Int.eq_ofNat_of_zero_le (by omega : 0 ≤ m)
    exact text_ok h (by omega)
theorem rtext_any {w : World} {v : Value} {bs : List Int} {e : Int} (h : Bys bs v w) (hs : Sound bs e) (n m : Int) : Calls Try.prog 19 #[.agg #[v, .int .i64 e], .int .i64 n, .int .i64 m] w (TextPost2 w (txtB bs e n m) (txtE bs e n m) (txtS bs e n m)) := by
  unfold txtB txtE txtS
  by_cases hn : n < 0 ∨ m < n
  · rw [if_pos hn, if_pos hn, if_pos hn]
    exact rtext_bad e h hn
  · rw [if_neg hn, if_neg hn, if_neg hn]
    obtain ⟨a, rfl⟩ := Int.eq_ofNat_of_zero_le (by omega : 0 ≤ n)
    obtain ⟨b, rfl⟩ := Int.eq_ofNat_of_zero_le (by omega : 0 ≤ m)
    exact rtext_ok e h (by have := hs.2.1; omega) (by omega)
theorem zer_any {w : World} {g : Nat} {bs : List Int} {e : Int} (h : Rd w g bs e) (n : Int) : Calls Try.prog 22 #[.pointer (some ⟨g, 0, none⟩), .int .i64 n] w fun en w' => (∃ v, en = .returned v) ∧ Rd w' g (zerB bs e n) (zerE bs e n) ∧ Keeps (fun k => k = g) w w' := zeros_calls h n
theorem rzer_any {w : World} {v : Value} {bs : List Int} {e : Int} (h : Bys bs v w) (hs : Sound bs e) (n : Int) : Calls Try.prog 21 #[.agg #[v, .int .i64 e], .int .i64 n] w (RPost w (zerB bs e n) (zerE bs e n)) := rzerosR_calls e h (by have := hs.2.1; omega) n

theorem reads_long {w : World} {v v2 : Value} {bs : List Int} (h : Bys bs v w) (hl : bs.length ≤ 140737488351232) (h2 : 3000 < bs.length) : Calls Try.prog 6 #[v, v2] w fun e w' => e = .returned (.bool true) ∧ Below w.heap.size w w' := by
  obtain ⟨A, c, rfl, hc, hC⟩ := h
  have HAW := Aside0.mk (awake_calls w)
  have d1 : decide ((3000 : Int) < (bs.length : Int)) = true := decide_eq_true (by omega)
  have d2 : decide (3000 < bs.length) = true := decide_eq_true h2
  clear hC
  go_enter Try.func6, Try.ntmps6
  go_wp2_with fail
  refine HAW.out.mono ?_
  rintro en w' ⟨rfl, hb⟩
  have HB := Aside0.mk hb
  clear hb
  go_wp2_with fail
  go_ret
  exact ⟨by simp, HB.out⟩

end Go.Proofs.Ytceaddpbebaldaa.Word
