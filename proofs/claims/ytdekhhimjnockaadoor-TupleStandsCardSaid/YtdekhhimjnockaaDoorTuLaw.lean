/- What a key is read as: plain. -/
import Derived.Test.YtdekhhimjnockaaDoorTuRead
namespace Go.Proofs.YtdekhhimjnockaaDoor.Tu
open Go.RowKit Go.Proofs.YtdekhhimjnockaaDoorW.PrintWords Go.Proofs.YtdekhhimjnockaaDoorW.PrintLast Go.Proofs.YtdekhhimjnockaaDoorW.PrintMore
open Go.Proofs.YtdekhhimjnockaaDoor Go.Proofs.YtdekhhimjnockaaDoor.Vals Go.Proofs.YtdekhhimjnockaaDoor.Word Go.Proofs.YtdekhhimjnockaaDoor.Q
set_option linter.unusedVariables false
set_option linter.unusedSimpArgs false

theorem num_be' {k : Nat} {x : Int} (h0 : 0 ≤ x) (h1 : x < 2 ^ (8 * k)) : num (be k x) = x := by
  obtain ⟨n, rfl⟩ := Int.eq_ofNat_of_zero_le h0
  have h := num_be n k
  rw [Nat.mod_eq_of_lt (by exact_mod_cast h1)] at h
  exact h
theorem be_add (c : Int) (m : Nat) (x : Int) : ∀ n, n ≤ m → be n (c * 2 ^ (8 * m) + x) = be n x := by
  intro n
  induction n with
  | zero => intro _; rfl
  | succ n ih =>
    intro h
    simp only [be]
    rw [ih (by omega)]
    congr 1
    have hp : (2 : Int) ^ (8 * m) = 2 ^ (8 * n) * (256 * 2 ^ (8 * (m - n - 1))) := by
      have e : 8 * m = 8 * n + (8 + 8 * (m - n - 1)) := by omega
      rw [e, Int.pow_add, Int.pow_add]
      rfl
    have hpos : (0 : Int) < 2 ^ (8 * n) := Int.pow_pos (by decide)
    rw [hp, show c * (2 ^ (8 * n) * (256 * 2 ^ (8 * (m - n - 1)))) + x = x + 2 ^ (8 * n) * (c * 2 ^ (8 * (m - n - 1)) * 256) by
      rw [Int.add_comm, ← Int.mul_assoc, ← Int.mul_assoc, ← Int.mul_assoc]
      congr 1
      rw [Int.mul_comm c, Int.mul_assoc, Int.mul_assoc, Int.mul_assoc, Int.mul_assoc]
      congr 1
      rw [Int.mul_comm (256 : Int)], Int.add_mul_ediv_left _ _ (by omega), Int.add_mul_emod_self_right]
theorem be_num : ∀ (l : List Int), Byte l → be l.length (num l) = l
  | [], _ => rfl
  | c :: t, h => by
    have hc := h c (by simp)
    have ht : Byte t := fun x hx => h x (by simp [hx])
    have hl := num_lt t ht
    have hp : (256 : Int) ^ t.length = 2 ^ (8 * t.length) := by rw [Int.pow_mul]; rfl
    rw [hp] at hl
    have hn : num (c :: t) = c * 2 ^ (8 * t.length) + num t := by
      have h1 := num_from t c
      rw [hp] at h1
      rw [← h1]
      simp [num]
    have hpos : (0 : Int) < 2 ^ (8 * t.length) := Int.pow_pos (by decide)
    rw [List.length_cons, hn]
    simp only [be]
    rw [be_add c t.length (num t) t.length (Nat.le_refl _), be_num t ht]
    congr 1
    rw [Int.add_comm, Int.mul_comm, Int.add_mul_ediv_left _ _ (by omega), Int.ediv_eq_zero_of_lt hl.1 hl.2]
    omega
def toU (l : List Int) : List UInt8 := l.map fun n => UInt8.ofNat n.toNat
theorem toU_app (a b : List Int) : toU (a ++ b) = toU a ++ toU b := List.map_append
theorem toU_length (a : List Int) : (toU a).length = a.length := List.length_map _
theorem toU_intsU (l : List UInt8) : toU (intsU l) = l := by
  unfold toU intsU
  rw [List.map_map]
  conv => rhs; rw [← List.map_id l]
  exact List.map_congr_left fun b _ => by simp
theorem intsU_toU {l : List Int} (h : Byte l) : intsU (toU l) = l := by
  unfold toU intsU
  rw [List.map_map]
  conv => rhs; rw [← List.map_id l]
  refine List.map_congr_left fun b hb => ?_
  have := h b hb
  simp only [Function.comp, id, UInt8.toNat_ofNat']
  omega
def encU (l : List S45) : List UInt8 := toU (enc l)
theorem encU_num (n : Int) (x : ByteArray) (l : List S45) : encU (⟨true, n, x⟩ :: l) = 1 :: (toU (be 8 n) ++ encU l) := by
  unfold encU
  rw [show enc (⟨true, n, x⟩ :: l) = (1 :: be 8 n) ++ enc l from rfl, toU_app]
  rfl
theorem encU_text (n : Int) (x : ByteArray) (l : List S45) : encU (⟨false, n, x⟩ :: l) = 2 :: (escU x.data.toList ++ 0 :: 1 :: encU l) := by
  unfold encU
  rw [show enc (⟨false, n, x⟩ :: l) = (2 :: (escI x ++ [0, 1])) ++ enc l from rfl, toU_app, show toU (2 :: (escI x ++ [0, 1])) = 2 :: toU (escI x ++ [0, 1]) from rfl, toU_app, show escI x = intsU (escU x.data.toList) from rfl, toU_intsU]
  simp [toU]
theorem escU_cons (c : UInt8) (t : List UInt8) : escU (c :: t) = (if c = 0 then [0, 255] else [c]) ++ escU t := rfl
theorem tail_form (l r : List UInt8) (c : UInt8) : ∃ d s, l ++ c :: r = d :: s := by
  cases l with
  | nil => exact ⟨_, _, rfl⟩
  | cons x y => exact ⟨_, _, rfl⟩
theorem textU_esc : ∀ (t a r : List UInt8), textU a (escU t ++ 0 :: 1 :: r) = some (a ++ t, r)
  | [], a, r => by simp [escU, textU]
  | c :: t, a, r => by
    rw [escU_cons, List.append_assoc]
    by_cases hc : c = 0
    · subst hc
      rw [if_pos rfl, show ([0, 255] : List UInt8) ++ (escU t ++ 0 :: 1 :: r) = 0 :: 255 :: (escU t ++ 0 :: 1 :: r) from rfl, textU, if_pos rfl, if_neg (by decide), if_pos rfl, textU_esc t]
      simp
    · obtain ⟨d, s, hd⟩ := tail_form (escU t) (1 :: r) 0
      rw [if_neg hc, show ([c] : List UInt8) ++ (escU t ++ 0 :: 1 :: r) = c :: (escU t ++ 0 :: 1 :: r) from rfl, hd, textU, if_neg hc, ← hd, textU_esc t]
      simp
theorem textU_back : ∀ (s a : List UInt8) {x r : List UInt8}, textU a s = some (x, r) → ∃ t, x = a ++ t ∧ s = escU t ++ 0 :: 1 :: r
  | [], a, x, r, h => by simp [textU] at h
  | [c], a, x, r, h => by simp [textU] at h
  | c :: d :: s, a, x, r, h => by
    rw [textU] at h
    by_cases hc : c = 0
    · rw [if_pos hc] at h
      by_cases h1 : d = 1
      · rw [if_pos h1] at h
        injection h with h
        injection h with h2 h3
        subst h2 h3 hc h1
        exact ⟨[], by simp, by simp [escU]⟩
      · rw [if_neg h1] at h
        by_cases h2 : d = 255
        · rw [if_pos h2] at h
          obtain ⟨t, rfl, rfl⟩ := textU_back s _ h
          subst hc h2
          exact ⟨0 :: t, by simp, by rw [escU_cons, if_pos rfl]; simp⟩
        · rw [if_neg h2] at h
          cases h
    · rw [if_neg hc] at h
      obtain ⟨t, rfl, ht⟩ := textU_back (d :: s) _ h
      exact ⟨c :: t, by simp, by rw [escU_cons, if_neg hc, ht]; simp⟩
  termination_by s => s.length
theorem empty_of {x : ByteArray} (h : x.toList.isEmpty = true) : x = ⟨#[]⟩ := by
  rw [Lib.toList_data, List.isEmpty_iff] at h
  apply ByteArray.ext
  apply Array.toList_inj.1
  exact h
theorem ba_eta (x : ByteArray) : (⟨x.data.toList.toArray⟩ : ByteArray) = x := by
  apply ByteArray.ext
  apply Array.toList_inj.1
  rfl
theorem be8_byte (n : Int) : Byte (be 8 n) := by
  intro c hc
  have main : ∀ k, ∀ c ∈ be k n, 0 ≤ c ∧ c < 256 := by
    intro k
    induction k with
    | zero => intro c hc; simp [be] at hc
    | succ k ih =>
      intro c hc
      rcases List.mem_cons.1 hc with rfl | hc
      · exact ⟨Int.emod_nonneg _ (by decide), Int.emod_lt_of_pos _ (by decide)⟩
      · exact ih c hc
  have := main 8 c hc
  exact ⟨by omega, by omega⟩
theorem readF_enc : ∀ (l : List S45), (∀ p ∈ l, mayP p = true) → (∀ p ∈ l, OkP p) → ∀ (acc : List S45) (k : Nat), (encU l).length < k → readF k acc (encU l) = some (acc ++ l)
  | [], _, _, acc, k, hk => by
    obtain ⟨k, rfl⟩ : ∃ j, k = j + 1 := ⟨k - 1, by omega⟩
    show readF (k + 1) acc [] = _
    rw [readF, List.append_nil]
  | ⟨true, n, x⟩ :: l, hm, ho, acc, k, hk => by
    obtain ⟨k, rfl⟩ : ∃ j, k = j + 1 := ⟨k - 1, by omega⟩
    obtain rfl : x = ⟨#[]⟩ := empty_of (hm _ List.mem_cons_self)
    obtain ⟨o1, o2, _⟩ := ho _ List.mem_cons_self
    simp only at o1 o2
    have hl8 : (toU (be 8 n)).length = 8 := by rw [toU_length, be_length]
    rw [encU_num] at hk ⊢
    have ht : (toU (be 8 n) ++ encU l).take 8 = toU (be 8 n) := by rw [List.take_append_of_le_length (by omega), List.take_of_length_le (by omega)]
    have hd : (toU (be 8 n) ++ encU l).drop 8 = encU l := by rw [List.drop_append_of_le_length (by omega), List.drop_of_length_le (by omega)]; rfl
    rw [readF, if_pos ⟨rfl, by rw [List.length_append]; omega⟩, ht, hd, intsU_toU (be8_byte n), num_be' o1 (by simpa using o2), readF_enc l (fun p hp => hm p (List.mem_cons_of_mem _ hp)) (fun p hp => ho p (List.mem_cons_of_mem _ hp)) _ k (by simp at hk; omega)]
    simp
  | ⟨false, n, x⟩ :: l, hm, ho, acc, k, hk => by
    obtain ⟨k, rfl⟩ : ∃ j, k = j + 1 := ⟨k - 1, by omega⟩
    obtain rfl : n = 0 := by
      have h := hm _ List.mem_cons_self
      exact beq_iff_eq.1 h
    rw [encU_text] at hk ⊢
    rw [readF, if_neg (by simp), if_pos rfl, textU_esc]
    simp only [List.nil_append]
    rw [ba_eta, readF_enc l (fun p hp => hm p (List.mem_cons_of_mem _ hp)) (fun p hp => ho p (List.mem_cons_of_mem _ hp)) _ k (by simp at hk; omega)]
    simp
theorem num8_bd {bs : List Int} (h : Byte bs) (hl : bs.length = 8) : 0 ≤ num bs ∧ num bs < 18446744073709551616 := by
  have := num_lt bs h
  rw [hl] at this
  exact ⟨this.1, by have := this.2; simpa using this⟩
theorem readF_back : ∀ (k : Nat) (acc : List S45) (s : List UInt8) (m : List S45), readF k acc s = some m → s.length ≤ 100000 → ∃ l, m = acc ++ l ∧ encU l = s ∧ (∀ p ∈ l, mayP p = true) ∧ ∀ p ∈ l, OkP p
  | 0, acc, s, m, h, _ => by simp [readF] at h
  | k + 1, acc, [], m, h, _ => by
    rw [readF] at h
    injection h with h
    exact ⟨[], by simp [h], rfl, by simp, by simp⟩
  | k + 1, acc, c :: r, m, h, hs => by
    rw [readF] at h
    simp only [List.length_cons] at hs
    by_cases h1 : c = 1 ∧ 8 ≤ r.length
    · rw [if_pos h1] at h
      obtain ⟨rfl, h8⟩ := h1
      obtain ⟨l, rfl, hl, hm, ho⟩ := readF_back k _ _ m h (by rw [List.length_drop]; omega)
      have hby : Byte (intsU (r.take 8)) := intsU_byte _
      have hln : (intsU (r.take 8)).length = 8 := by unfold intsU; rw [List.length_map, List.length_take]; omega
      have hb := be_num _ hby
      rw [hln] at hb
      refine ⟨⟨true, num (intsU (r.take 8)), ⟨#[]⟩⟩ :: l, by simp, ?_, ?_, ?_⟩
      · rw [encU_num, hl, hb, toU_intsU, List.take_append_drop]
      · intro p hp
        rcases List.mem_cons.1 hp with rfl | hp
        · show (⟨#[]⟩ : ByteArray).toList.isEmpty = true
          rw [Lib.toList_data]
          rfl
        · exact hm p hp
      · intro p hp
        rcases List.mem_cons.1 hp with rfl | hp
        · exact ⟨(num8_bd hby hln).1, (num8_bd hby hln).2, by show (0 : Nat) ≤ 100000; omega⟩
        · exact ho p hp
    · rw [if_neg h1] at h
      by_cases h2 : c = 2
      · rw [if_pos h2] at h
        subst h2
        cases hx : textU [] r with
        | none => rw [hx] at h; cases h
        | some xy =>
          obtain ⟨x, y⟩ := xy
          rw [hx] at h
          simp only at h
          have hy := textU_len _ _ hx
          obtain ⟨t, hxt, hr⟩ := textU_back _ _ hx
          rw [List.nil_append] at hxt
          subst hxt
          obtain ⟨l, rfl, hl, hm, ho⟩ := readF_back k _ _ m h (by omega)
          refine ⟨⟨false, 0, ⟨x.toArray⟩⟩ :: l, by simp, ?_, ?_, ?_⟩
          · rw [encU_text, hl, hr]
          · intro p hp
            rcases List.mem_cons.1 hp with rfl | hp
            · rfl
            · exact hm p hp
          · intro p hp
            rcases List.mem_cons.1 hp with rfl | hp
            · refine ⟨by show (0 : Int) ≤ 0; omega, by show (0 : Int) < 18446744073709551616; omega, ?_⟩
              have h3 : x.length ≤ (escU x).length := by
                clear hr hx h hl hm ho hp
                induction x with
                | nil => simp [escU]
                | cons c t ih =>
                  rw [escU_cons, List.length_append, List.length_cons]
                  by_cases hc : c = 0
                  · rw [if_pos hc]; simp; omega
                  · rw [if_neg hc]; simp; omega
              have h4 := congrArg List.length hr
              rw [List.length_append] at h4
              show (⟨x.toArray⟩ : ByteArray).size ≤ 100000
              have h5 : (⟨x.toArray⟩ : ByteArray).size = x.length := by simp [ByteArray.size]
              omega
            · exact ho p hp
      · rw [if_neg h2] at h
        cases h
theorem readU_enc {l : List S45} (hm : ∀ p ∈ l, mayP p = true) (ho : ∀ p ∈ l, OkP p) : readU (strOfNums (enc l)) = some l := by
  unfold readU
  have h1 : (strOfNums (enc l)).size = (encU l).length := by rw [strOfNums_size]; unfold encU; rw [toU_length]
  rw [strOfNums_data, h1]
  have h := readF_enc l hm ho [] ((encU l).length + 1) (by omega)
  rw [List.nil_append] at h
  exact h
theorem readU_back {s : ByteArray} {m : List S45} (h : readU s = some m) (hs : s.size ≤ 100000) : s = strOfNums (enc m) ∧ (∀ p ∈ m, mayP p = true) ∧ ∀ p ∈ m, OkP p := by
  obtain ⟨l, rfl, h1, h2, h3⟩ := readF_back _ _ _ _ h (by rw [data_length]; exact hs)
  refine ⟨?_, h2, h3⟩
  apply ByteArray.ext
  apply Array.toList_inj.1
  rw [strOfNums_data]
  exact h1.symm
end Go.Proofs.YtdekhhimjnockaaDoor.Tu
