/- What is read of bytes, and that it is what was written: no memory. -/
import Derived.Test.YtfpdapdnmkadeaaWireA
namespace Go.Proofs.Ytfpdapdnmkadeaa.Wire
open Go.RowKit Go.Proofs.YtfpdapdnmkadeaaW.PrintWords Go.Proofs.YtfpdapdnmkadeaaW.PrintLast Go.Proofs.YtfpdapdnmkadeaaW.PrintMore
open Go.Proofs.Ytfpdapdnmkadeaa Go.Proofs.Ytfpdapdnmkadeaa.Vals Go.Proofs.Ytfpdapdnmkadeaa.Word Go.Proofs.Ytfpdapdnmkadeaa.Q
set_option linter.unusedVariables false
set_option linter.unusedSimpArgs false

theorem bytesOf_str {l : List Int} (h : Byte l) : bytesOf (strOfNums l) = l := by
  unfold bytesOf
  rw [strOfNums_data, List.map_map]
  induction l with
  | nil => rfl
  | cons c t ih =>
    have hc := h c (by simp)
    rw [List.map_cons, ih (fun x hx => h x (by simp [hx]))]
    congr 1
    obtain ⟨n, rfl⟩ := Int.eq_ofNat_of_zero_le hc.1
    simp only [Function.comp, Int.toNat_natCast, UInt8.toNat_ofNat']
    rw [Nat.mod_eq_of_lt (by omega)]
/-- A text behind its length, as it is read. -/
def rdS (k : Nat) (bs : List Int) (e : Int) : ByteArray := let n := (num (rawO bs e (k : Int))).toNat; textS (rawO (rawB bs e (k : Int)) (rawE bs e (k : Int)) (n : Int)) n n
def rdB (k : Nat) (bs : List Int) (e : Int) : List Int := let n := (num (rawO bs e (k : Int))).toNat; rawB (rawB bs e (k : Int)) (rawE bs e (k : Int)) (n : Int)
def rdE (k : Nat) (bs : List Int) (e : Int) : Int := let n := (num (rawO bs e (k : Int))).toNat; rawE (rawB bs e (k : Int)) (rawE bs e (k : Int)) (n : Int)
theorem textB_eq (out bs : List Int) (n : Nat) (h : out.length ≤ n) : textB out bs n n = bs := by
  unfold textB
  split
  · rfl
  · rw [List.drop_of_length_le h]; rfl
theorem textE_eq (out : List Int) (e : Int) (n : Nat) (h : out.length ≤ n) : textE out e n n = e := by
  unfold textE
  split
  · rfl
  · rw [List.drop_of_length_le h]; rfl
/-- Pairs, as they are read. -/
def rP : Nat → List Int → Int → List S27 × List Int × Int
  | 0, bs, e => ([], bs, e)
  | n + 1, bs, e => if e ≠ 0 then ([], bs, e) else
      let r := rP n (rdB 2 (rdB 1 bs e) (rdE 1 bs e)) (rdE 2 (rdB 1 bs e) (rdE 1 bs e))
      (⟨rdS 1 bs e, rdS 2 (rdB 1 bs e) (rdE 1 bs e)⟩ :: r.1, r.2)
theorem rP_err (n : Nat) {bs : List Int} {e : Int} (h : e ≠ 0) : rP n bs e = ([], bs, e) := by
  cases n with
  | zero => rfl
  | succ n => simp only [rP]; rw [if_pos h]
theorem rP_step (n : Nat) (bs : List Int) : rP (n + 1) bs 0 = (⟨rdS 1 bs 0, rdS 2 (rdB 1 bs 0) (rdE 1 bs 0)⟩ :: (rP n (rdB 2 (rdB 1 bs 0) (rdE 1 bs 0)) (rdE 2 (rdB 1 bs 0) (rdE 1 bs 0))).1, (rP n (rdB 2 (rdB 1 bs 0) (rdE 1 bs 0)) (rdE 2 (rdB 1 bs 0) (rdE 1 bs 0))).2) := by
  simp only [rP]; rw [if_neg (by simp)]

/-! What is written. -/
def encT (k : Nat) (s : ByteArray) : List Int := be k (s.size : Int) ++ bytesOf s
def encP : List S27 → List Int
  | [] => []
  | p :: t => encT 1 p.f0 ++ encT 2 p.f1 ++ encP t
def encA (E : Int) (s : ByteArray) (l : List S27) : List Int := be 1 E ++ encT 2 s ++ be 4 (l.length : Int) ++ encP l
def fitP (l : List S27) : Prop := ∀ p ∈ l, p.f0.size ≤ 255 ∧ p.f1.size ≤ 65535
def told (E : Int) (s : ByteArray) (l : List S27) : Prop := fitP l ∧ 0 ≤ E ∧ E ≤ 255 ∧ s.size ≤ 65535
instance (l : List S27) : Decidable (fitP l) := by unfold fitP; infer_instance
instance (E : Int) (s : ByteArray) (l : List S27) : Decidable (told E s l) := by unfold told; infer_instance

theorem psB_fit : ∀ (l : List S27) (bs : List Int), fitP l → psB l bs = bs ++ encP l
  | [], bs, _ => by simp [psB, encP]
  | p :: t, bs, h => by
    obtain ⟨h1, h2⟩ := h p (by simp)
    show psB t (pB p bs) = _
    rw [psB_fit t _ (fun q hq => h q (by simp [hq]))]
    unfold pB tB
    rw [if_neg (by omega), if_neg (by omega)]
    simp [encP, encT]
theorem psBad_true : ∀ (l : List S27), psBad l true = true
  | [] => rfl
  | p :: t => by
    show psBad t (pBad p true) = true
    have : pBad p true = true := by unfold pBad tBad; split <;> simp
    rw [this]; exact psBad_true t
theorem psBad_fit : ∀ (l : List S27), psBad l false = !decide (fitP l)
  | [] => by simp [psBad, fitP]
  | p :: t => by
    show psBad t (pBad p false) = _
    by_cases h : p.f0.size ≤ 255 ∧ p.f1.size ≤ 65535
    · have : pBad p false = false := by unfold pBad tBad; rw [if_neg (by omega), if_neg (by omega)]
      rw [this, psBad_fit t]
      congr 1
      exact decide_eq_decide.2 ⟨fun h2 q hq => by rcases List.mem_cons.1 hq with rfl | hq; exact h; exact h2 q hq, fun h2 q hq => h2 q (by simp [hq])⟩
    · have : pBad p false = true := by
        unfold pBad tBad
        by_cases h1 : 65535 < (p.f1.size : Int)
        · rw [if_pos h1]
        · rw [if_neg h1, if_pos (by omega)]
      rw [this, psBad_true, decide_eq_false (fun h2 => h (h2 p (by simp)))]; rfl
theorem aBad_is (E : Int) (s : ByteArray) (l : List S27) : aBad E s l = !decide (told E s l) := by
  unfold aBad
  by_cases h : 0 ≤ E ∧ E ≤ 255 ∧ s.size ≤ 65535
  · have : tBad 65535 s (eBad E) = false := by
      unfold tBad eBad
      rw [if_neg (by omega)]
      simp; omega
    rw [this, psBad_fit]
    congr 1
    exact decide_eq_decide.2 ⟨fun h2 => ⟨h2, h⟩, fun h2 => h2.1⟩
  · have : tBad 65535 s (eBad E) = true := by
      unfold tBad eBad
      by_cases h1 : 65535 < (s.size : Int)
      · rw [if_pos h1]
      · rw [if_neg h1]
        simp; omega
    rw [this, psBad_true, decide_eq_false (fun h2 => h h2.2)]; rfl
theorem aB_told {E : Int} {s : ByteArray} {l : List S27} (h : told E s l) : aB E s l = encA E s l := by
  obtain ⟨h1, h2, h3, h4⟩ := h
  have hw : IntKind.u64.wrap E = E := by simp [IntKind.wrap, IntKind.signed, IntKind.bits]; omega
  unfold aB encA
  rw [psB_fit l _ h1, hw]
  unfold tB encT
  rw [if_neg (by omega)]
  simp

/-! Reading. -/
theorem raw_app {a r : List Int} {n : Nat} (h : a.length = n) : rawO (a ++ r) 0 (n : Int) = a ∧ rawB (a ++ r) 0 (n : Int) = r ∧ rawE (a ++ r) 0 (n : Int) = 0 := by
  unfold rawO rawB rawE
  have a1 : ¬ ((0 : Int) ≠ 0) := by simp
  have a2 : ¬ ((n : Int) < 0) := by omega
  have a3 : ¬ (((a ++ r).length : Int) < (n : Int)) := by rw [List.length_append]; omega
  simp only [if_neg a1, if_neg a2, if_neg a3, Int.toNat_natCast]
  exact ⟨List.take_left' h, List.drop_left' h, trivial⟩
theorem raw_back {bs : List Int} {e : Int} {n : Nat} (h : rawE bs e (n : Int) = 0) : e = 0 ∧ n ≤ bs.length ∧ rawO bs e (n : Int) = bs.take n ∧ rawB bs e (n : Int) = bs.drop n := by
  unfold rawE at h
  unfold rawO rawB
  by_cases he : e ≠ 0
  · rw [if_pos he] at h; exact absurd h he
  · have he0 : e = 0 := by omega
    subst he0
    have a2 : ¬ ((n : Int) < 0) := by omega
    rw [if_neg he, if_neg a2] at h
    by_cases hl : (bs.length : Int) < (n : Int)
    · rw [if_pos hl] at h; omega
    · simp only [if_neg he, if_neg a2, if_neg hl, Int.toNat_natCast]
      exact ⟨trivial, by omega, trivial, trivial⟩
theorem num_be' {k : Nat} {x : Int} (h0 : 0 ≤ x) (h1 : x < 2 ^ (8 * k)) : num (be k x) = x := by
  obtain ⟨n, rfl⟩ := Int.eq_ofNat_of_zero_le h0
  have h := num_be n k
  rw [Nat.mod_eq_of_lt (by exact_mod_cast h1)] at h
  exact h
theorem rd_app {k : Nat} (s : ByteArray) (r : List Int) (hs : (s.size : Int) < 2 ^ (8 * k)) : rdS k (encT k s ++ r) 0 = s ∧ rdB k (encT k s ++ r) 0 = r ∧ rdE k (encT k s ++ r) 0 = 0 := by
  unfold rdS rdB rdE encT
  rw [List.append_assoc]
  obtain ⟨a1, a2, a3⟩ := raw_app (r := bytesOf s ++ r) (be_length k (s.size : Int))
  obtain ⟨b1, b2, b3⟩ := raw_app (r := r) (bytesOf_length s)
  simp only [a1, a2, a3, num_be' (show (0 : Int) ≤ s.size by omega) hs, Int.toNat_natCast, b1, b2, b3]
  refine ⟨?_, trivial, trivial⟩
  unfold textS
  rw [if_neg (by rw [bytesOf_length]; omega), List.drop_of_length_le (by rw [bytesOf_length]; omega), if_neg (by simp), List.take_of_length_le (by rw [bytesOf_length]; omega)]
  apply ByteArray.ext
  unfold bytesOf strOfNums
  have hid : ((fun n : Int => UInt8.ofNat n.toNat) ∘ fun b : UInt8 => (b.toNat : Int)) = id := by funext b; simp
  rw [List.map_map, hid, List.map_id]
theorem rP_app : ∀ (l : List S27) (r : List Int), fitP l → rP l.length (encP l ++ r) 0 = (l, r, 0)
  | [], r, _ => by simp [rP, encP]
  | p :: t, r, h => by
    obtain ⟨h1, h2⟩ := h p (by simp)
    rw [List.length_cons, rP_step]
    have e : encP (p :: t) ++ r = encT 1 p.f0 ++ (encT 2 p.f1 ++ (encP t ++ r)) := by simp [encP]
    obtain ⟨a1, a2, a3⟩ := rd_app (k := 1) p.f0 (encT 2 p.f1 ++ (encP t ++ r)) (by omega)
    obtain ⟨b1, b2, b3⟩ := rd_app (k := 2) p.f1 (encP t ++ r) (by omega)
    rw [e, a1, a2, a3, b1, b2, b3, rP_app t r (fun q hq => h q (by simp [hq]))]
theorem be_add (c : Int) (m : Nat) (x : Int) : ∀ n, n ≤ m → be n (c * 2 ^ (8 * m) + x) = be n x := by
  intro n
  induction n with
  | zero => intro _; rfl
  | succ n ih =>
    intro h
    simp only [be]
    rw [ih (by omega)]
    congr 1
    have hp : (2 : Int) ^ (8 * m) = 2 ^ (8 * n) * (256 * 2 ^ (8 * (m - n - 1))) := by
      have e : 8 * m = 8 * n + (8 + 8 * (m - n - 1)) := by omega
      rw [e, Int.pow_add, Int.pow_add]
      rfl
    have hpos : (0 : Int) < 2 ^ (8 * n) := Int.pow_pos (by decide)
    rw [hp, show c * (2 ^ (8 * n) * (256 * 2 ^ (8 * (m - n - 1)))) + x = x + 2 ^ (8 * n) * (c * 2 ^ (8 * (m - n - 1)) * 256) by
      rw [Int.add_comm, ← Int.mul_assoc, ← Int.mul_assoc, ← Int.mul_assoc]
      congr 1
      rw [Int.mul_comm c, Int.mul_assoc, Int.mul_assoc, Int.mul_assoc, Int.mul_assoc]
      congr 1
      rw [Int.mul_comm (256 : Int)], Int.add_mul_ediv_left _ _ (by omega), Int.add_mul_emod_self_right]
/-- A number's bytes again. -/
theorem be_num : ∀ (l : List Int), Byte l → be l.length (num l) = l
  | [], _ => rfl
  | c :: t, h => by
    have hc := h c (by simp)
    have ht : Byte t := fun x hx => h x (by simp [hx])
    have hl := num_lt t ht
    have hp : (256 : Int) ^ t.length = 2 ^ (8 * t.length) := by rw [Int.pow_mul]; rfl
    rw [hp] at hl
    have hn : num (c :: t) = c * 2 ^ (8 * t.length) + num t := by
      have h1 := num_from t c
      rw [hp] at h1
      rw [← h1]
      simp [num]
    have hpos : (0 : Int) < 2 ^ (8 * t.length) := Int.pow_pos (by decide)
    rw [List.length_cons, hn]
    simp only [be]
    rw [be_add c t.length (num t) t.length (Nat.le_refl _), be_num t ht]
    congr 1
    rw [Int.add_comm, Int.mul_comm, Int.add_mul_ediv_left _ _ (by omega), Int.ediv_eq_zero_of_lt hl.1 hl.2]
    omega
theorem be_take {k : Nat} {bs : List Int} (hb : Byte bs) (hk : k ≤ bs.length) : be k (num (bs.take k)) = bs.take k := by
  have h := be_num (bs.take k) (hb.take k)
  rwa [List.length_take, Nat.min_eq_left hk] at h
theorem rd_back {k : Nat} {bs : List Int} {e : Int} (hb : Byte bs) (h : rdE k bs e = 0) : e = 0 ∧ bs = encT k (rdS k bs e) ++ rdB k bs e ∧ ((rdS k bs e).size : Int) < 256 ^ k := by
  unfold rdE at h
  simp only at h
  obtain ⟨h1, h2, h3, h4⟩ := raw_back h
  obtain ⟨rfl, g2, g3, g4⟩ := raw_back h1
  have hn := num_lt (bs.take k) (hb.take k)
  rw [List.length_take, Nat.min_eq_left g2] at hn
  unfold rdS rdB encT
  simp only
  rw [g3, g4] at h2
  rw [h3, h4, g3, g4]
  obtain ⟨n, hnn⟩ := Int.eq_ofNat_of_zero_le hn.1
  have hnt : (num (bs.take k)).toNat = n := by rw [hnn]; rfl
  rw [hnt] at h2 ⊢
  have hlen : ((bs.drop k).take n).length = n := by rw [List.length_take]; omega
  have hts : textS ((bs.drop k).take n) n n = strOfNums ((bs.drop k).take n) := by
    unfold textS
    rw [if_neg (by omega), List.drop_of_length_le (by omega), if_neg (by simp), List.take_of_length_le (by omega)]
  rw [hts, strOfNums_size, hlen]
  refine ⟨by first | rfl | trivial, ?_, by rw [← hnn]; exact hn.2⟩
  rw [← hnn, be_take hb g2]
  have hby : Byte ((bs.drop k).take n) := (hb.drop k).take n
  have hbo : bytesOf (strOfNums ((bs.drop k).take n)) = (bs.drop k).take n := bytesOf_str hby
  rw [hbo, List.append_assoc, List.take_append_drop, List.take_append_drop]
theorem rP_back : ∀ (n : Nat) (bs : List Int) (e : Int), Byte bs → (rP n bs e).2.2 = 0 → e = 0 ∧ (rP n bs e).1.length = n ∧ bs = encP (rP n bs e).1 ++ (rP n bs e).2.1 ∧ fitP (rP n bs e).1
  | 0, bs, e, _, h => ⟨h, rfl, by simp [rP, encP], fun p hp => by simp [rP] at hp⟩
  | n + 1, bs, e, hb, h => by
    by_cases he : e ≠ 0
    · rw [rP_err _ he] at h; exact absurd h he
    · obtain rfl : e = 0 := by omega
      rw [rP_step] at h ⊢
      simp only at h ⊢
      have hb1 : Byte (rdB 1 bs 0) := by unfold rdB; exact (hb.rawB _ _).rawB _ _
      have hb2 : Byte (rdB 2 (rdB 1 bs 0) (rdE 1 bs 0)) := by unfold rdB; exact (Byte.rawB (show Byte (rdB 1 bs 0) from hb1) _ _).rawB _ _
      obtain ⟨i1, i2, i3, i4⟩ := rP_back n _ _ hb2 h
      obtain ⟨j1, j2, j3⟩ := rd_back hb1 i1
      obtain ⟨_, k2, k3⟩ := rd_back hb j1
      refine ⟨by first | rfl | trivial, by rw [List.length_cons, i2], ?_, ?_⟩
      · simp only [encP]
        rw [List.append_assoc, List.append_assoc, ← i3, ← j2, ← k2]
      · intro p hp
        rcases List.mem_cons.1 hp with rfl | hp
        · exact ⟨by simp only; omega, by simp only; omega⟩
        · exact i4 p hp

/-- The answer that bytes tell. -/
structure Ans where
  E : Int
  s : ByteArray
  l : List S27
def b1 (b : List Int) : List Int := rawB b 0 ((1 : Nat) : Int)
def e1 (b : List Int) : Int := rawE b 0 ((1 : Nat) : Int)
def b2 (b : List Int) : List Int := rdB 2 (b1 b) (e1 b)
def e2 (b : List Int) : Int := rdE 2 (b1 b) (e1 b)
def b3 (b : List Int) : List Int := rawB (b2 b) (e2 b) ((4 : Nat) : Int)
def e3 (b : List Int) : Int := rawE (b2 b) (e2 b) ((4 : Nat) : Int)
def nP (b : List Int) : Nat := (num (rawO (b2 b) (e2 b) ((4 : Nat) : Int))).toNat
def rA (b : List Int) : Ans := ⟨num (rawO b 0 ((1 : Nat) : Int)), rdS 2 (b1 b) (e1 b), (rP (nP b) (b3 b) (e3 b)).1⟩
def okA (b : List Int) : Prop := nP b ≤ 65536 ∧ (rP (nP b) (b3 b) (e3 b)).2 = ([], 0)
theorem okA_back {b : List Int} (hb : Byte b) (h : okA b) : told (rA b).E (rA b).s (rA b).l ∧ encA (rA b).E (rA b).s (rA b).l = b ∧ (rA b).l.length ≤ 65536 := by
  obtain ⟨h1, h2⟩ := h
  have hy1 : Byte (b1 b) := hb.rawB _ _
  have hy2 : Byte (b2 b) := by unfold b2 rdB; exact (hy1.rawB _ _).rawB _ _
  have hy3 : Byte (b3 b) := hy2.rawB _ _
  have hz : (rP (nP b) (b3 b) (e3 b)).2.2 = 0 := by rw [h2]
  obtain ⟨i1, i2, i3, i4⟩ := rP_back _ _ _ hy3 hz
  obtain ⟨j1, j2, j3, j4⟩ := raw_back (show rawE (b2 b) (e2 b) ((4 : Nat) : Int) = 0 from i1)
  obtain ⟨k1, k2, k3⟩ := rd_back hy1 (show rdE 2 (b1 b) (e1 b) = 0 from j1)
  obtain ⟨_, m2, m3, m4⟩ := raw_back (show rawE b 0 ((1 : Nat) : Int) = 0 from k1)
  have hE := num_lt (b.take 1) (hb.take 1)
  rw [List.length_take, Nat.min_eq_left m2] at hE
  have hn4 : ((nP b : Nat) : Int) = num ((b2 b).take 4) := by
    unfold nP
    rw [j3]
    have := (num_lt ((b2 b).take 4) (hy2.take 4)).1
    omega
  refine ⟨⟨i4, ?_, ?_, ?_⟩, ?_, by show (rP (nP b) (b3 b) (e3 b)).1.length ≤ _; rw [i2]; exact h1⟩
  · show 0 ≤ num (rawO b 0 ((1 : Nat) : Int)); rw [m3]; exact hE.1
  · show num (rawO b 0 ((1 : Nat) : Int)) ≤ 255; rw [m3]; have := hE.2; omega
  · show (rdS 2 (b1 b) (e1 b)).size ≤ 65535; omega
  · show be 1 (num (rawO b 0 ((1 : Nat) : Int))) ++ encT 2 (rdS 2 (b1 b) (e1 b)) ++ be 4 (((rP (nP b) (b3 b) (e3 b)).1.length : Nat) : Int) ++ encP (rP (nP b) (b3 b) (e3 b)).1 = b
    rw [i2, m3, be_take hb m2, hn4, be_take hy2 j2]
    have hnil : (rP (nP b) (b3 b) (e3 b)).2.1 = [] := by rw [h2]
    rw [hnil, List.append_nil] at i3
    rw [← i3]
    have e3' : b3 b = (b2 b).drop 4 := j4
    have e1' : b1 b = b.drop 1 := m4
    rw [e3', List.append_assoc, List.append_assoc, List.take_append_drop]
    have k2' : b1 b = encT 2 (rdS 2 (b1 b) (e1 b)) ++ b2 b := k2
    rw [← k2', e1', List.take_append_drop]
theorem okA_enc {E : Int} {s : ByteArray} {l : List S27} (h : told E s l) (hl : l.length ≤ 65536) : okA (encA E s l) ∧ rA (encA E s l) = ⟨E, s, l⟩ := by
  obtain ⟨h1, h2, h3, h4⟩ := h
  have e0 : encA E s l = be 1 E ++ (encT 2 s ++ (be 4 (l.length : Int) ++ (encP l ++ []))) := by unfold encA; simp
  obtain ⟨a1, a2, a3⟩ := raw_app (r := encT 2 s ++ (be 4 (l.length : Int) ++ (encP l ++ []))) (be_length 1 E)
  obtain ⟨c1, c2, c3⟩ := rd_app (k := 2) s (be 4 (l.length : Int) ++ (encP l ++ [])) (by omega)
  obtain ⟨d1, d2, d3⟩ := raw_app (r := encP l ++ []) (be_length 4 (l.length : Int))
  have hb1 : b1 (encA E s l) = encT 2 s ++ (be 4 (l.length : Int) ++ (encP l ++ [])) := by unfold b1; rw [e0]; exact a2
  have he1 : e1 (encA E s l) = 0 := by unfold e1; rw [e0]; exact a3
  have hb2 : b2 (encA E s l) = be 4 (l.length : Int) ++ (encP l ++ []) := by unfold b2; rw [hb1, he1]; exact c2
  have he2 : e2 (encA E s l) = 0 := by unfold e2; rw [hb1, he1]; exact c3
  have hb3 : b3 (encA E s l) = encP l ++ [] := by unfold b3; rw [hb2, he2]; exact d2
  have he3 : e3 (encA E s l) = 0 := by unfold e3; rw [hb2, he2]; exact d3
  have hn : nP (encA E s l) = l.length := by
    unfold nP
    rw [hb2, he2, d1, num_be' (by omega) (by omega)]
    rfl
  have hr := rP_app l [] h1
  refine ⟨⟨by rw [hn]; exact hl, by rw [hn, hb3, he3, hr]⟩, ?_⟩
  unfold rA
  rw [hn, hb3, he3, hr, hb1, he1, c1]
  have hE : num (rawO (encA E s l) 0 ((1 : Nat) : Int)) = E := by rw [e0, a1]; exact num_be' h2 (by omega)
  rw [hE]
end Go.Proofs.Ytfpdapdnmkadeaa.Wire
