/- The reference's functions of scripts, and the law's own. -/
import Derived.Test.YtfpdapdnmkadeaaWireOP
import Derived.Test.YtfpdapdnmkadeaaWireRef
namespace Go.Proofs.Ytfpdapdnmkadeaa.Wire
open Go.RowKit Go.Proofs.YtfpdapdnmkadeaaW.PrintWords Go.Proofs.YtfpdapdnmkadeaaW.PrintLast Go.Proofs.YtfpdapdnmkadeaaW.PrintMore
open Go.Proofs.Ytfpdapdnmkadeaa Go.Proofs.Ytfpdapdnmkadeaa.Vals Go.Proofs.Ytfpdapdnmkadeaa.Word Go.Proofs.Ytfpdapdnmkadeaa.Q
open Go.Proofs.Ytfpdapdnmkadeaa.O
set_option linter.unusedVariables false
set_option linter.unusedSimpArgs false

theorem rdT52 {l : List S52} {i : Nat} (h : i < l.length) : rd_T52 l (i : Int) = l[i] := by
  unfold rd_T52
  rw [Int.toNat_natCast, List.getD_eq_getElem?_getD, List.getElem?_eq_getElem h]; rfl

/-! light -/
theorem light_l0 (l : List S52) (hl : l.length < 1152921504606846976) : ∀ (d i k : Nat) (x : Int), i + d = l.length → d < k → ∃ r, sluicegatelaw31_light.l0 k l x (i : Int) = some r ∧ (r = true → l.length ≤ 150) := by
  have hend : ∀ x : Int, ∃ r, (if (l.length : Int) ≤ 150 then some (decide (x ≤ 200000)) else some false) = some r ∧ (r = true → l.length ≤ 150) := by
    intro x
    by_cases h : (l.length : Int) ≤ 150
    · exact ⟨_, by rw [if_pos h], fun _ => by omega⟩
    · exact ⟨_, by rw [if_neg h], fun h => by cases h⟩
  intro d
  induction d with
  | zero =>
    intro i k x hi hk
    obtain ⟨k, rfl⟩ : ∃ m, k = m + 1 := ⟨k - 1, by omega⟩
    simp only [sluicegatelaw31_light.l0]
    rw [if_neg (by omega)]
    exact hend x
  | succ d ih =>
    intro i k x hi hk
    obtain ⟨k, rfl⟩ : ∃ m, k = m + 1 := ⟨k - 1, by omega⟩
    simp only [sluicegatelaw31_light.l0]
    rw [if_pos (by omega)]
    by_cases h2 : (i : Int) < 200
    · rw [if_pos h2, if_pos (by omega), wi (by omega)]
      exact ih (i + 1) k _ (by omega) (by omega)
    · rw [if_neg h2]
      exact hend x
theorem light_calls {w : World} (A : Option Addr) (c : Nat) (l : List S52) (hC : Kd.C k52 w A l.length l) (hc : l.length ≤ c) (hl : l.length < 1152921504606846976) :
    ∃ r, Calls Try.prog 15 #[.slice A l.length c] w (fun e w' => e = .returned (.bool r) ∧ Below w.heap.size w w') ∧ (r = true → l.length ≤ 150) := by
  obtain ⟨r, h1, h2⟩ := light_l0 l hl l.length 0 (l.length + 1) 0 (by omega) (by omega)
  exact ⟨r, (sluicegatelaw31_light.calls (l.length + 1) A c l r w hC hc h1).mono (fun e w' ⟨he, hd⟩ => ⟨he, hd.below⟩), h2⟩

/-! May, All -/
theorem rmay_is (K : Int) (s t : ByteArray) (n : Int) : ∀ k, 2 ≤ k → sluicegateref31_May.f k K s t n = some (decide (mayR K s t n)) := by
  intro k hk
  obtain ⟨k, rfl⟩ : ∃ m, k = m + 2 := ⟨k - 2, by omega⟩
  have hno : ∀ K s t n, (K < 1 ∨ K > 7 ∨ (s.size : Int) > 255) → decide (mayR K s t n) = false := fun K s t n h => decide_eq_false (fun g => by obtain ⟨g1, g2, g3, _⟩ := g; omega)
  unfold sluicegateref31_May.f
  by_cases h1 : K < 1
  · rw [if_pos h1, hno _ _ _ _ (Or.inl h1)]
    simp [sluicegateref31_May.j0]
  · rw [if_neg h1]
    by_cases h2 : K > 7
    · rw [if_pos h2, hno _ _ _ _ (Or.inr (Or.inl h2))]
      simp [sluicegateref31_May.j0]
    · rw [if_neg h2]
      by_cases h3 : (s.size : Int) > 255
      · rw [decide_eq_true h3, hno _ _ _ _ (Or.inr (Or.inr h3))]
        simp [sluicegateref31_May.j0]
      · rw [decide_eq_false h3]
        simp only [sluicegateref31_May.j0, Bool.false_eq_true, if_false]
        have hj : ∀ K : Int, K = 2 ∨ K = 3 → sluicegateref31_May.j1 (k + 1) K true K s t n = some (decide (mayR K s t n)) := by
          intro K hK
          simp only [sluicegateref31_May.j1, if_true]
          by_cases h4 : t.size = 0
          · rw [if_pos ((nil_iff t).2 h4)]
            congr 1
            rw [Bool.eq_iff_iff]
            simp only [beq_iff_eq, decide_eq_true_eq, may23 hK]
            omega
          · rw [if_neg (fun h => h4 ((nil_iff t).1 h))]
            congr 1
            exact (decide_eq_false (fun g => h4 ((may23 hK).1 g).2.1)).symm
        have hK : K = 1 ∨ K = 2 ∨ K = 3 ∨ K = 4 ∨ (K = 5 ∨ K = 6 ∨ K = 7) := by omega
        rcases hK with rfl | rfl | rfl | rfl | hK
        · rw [if_pos rfl]
          by_cases h4 : (t.size : Int) ≤ 65535
          · rw [if_pos h4]
            congr 1
            rw [Bool.eq_iff_iff]
            simp only [beq_iff_eq, decide_eq_true_eq, may1]
            omega
          · rw [if_neg h4]
            congr 1
            exact (decide_eq_false (fun g => h4 (by have := (may1.1 g).2.1; omega))).symm
        · rw [if_neg (by decide), if_pos rfl]
          exact hj 2 (Or.inl rfl)
        · rw [if_neg (by decide), if_neg (by decide)]
          exact hj 3 (Or.inr rfl)
        · rw [if_neg (by decide), if_neg (by decide)]
          simp only [sluicegateref31_May.j1]
          rw [if_neg (by decide), if_pos trivial]
          by_cases h4 : (t.size : Int) ≤ 255
          · rw [if_pos h4]
            by_cases h5 : n ≥ 0
            · rw [if_pos h5]
              congr 1
              rw [Bool.eq_iff_iff]
              simp only [decide_eq_true_eq, may4]
              omega
            · rw [if_neg h5]
              congr 1
              exact (decide_eq_false (fun g => h5 (may4.1 g).2.2.1)).symm
          · rw [if_neg h4]
            congr 1
            exact (decide_eq_false (fun g => h4 (by have := (may4.1 g).2.1; omega))).symm
        · have e3 : (K == 3) = false := beq_eq_false_iff_ne.2 (by omega)
          rw [if_neg (by omega), if_neg (by omega), e3]
          simp only [sluicegateref31_May.j1]
          rw [if_neg (by decide), if_neg (by omega)]
          by_cases h4 : s.size = 0
          · rw [if_pos ((nil_iff s).2 h4)]
            by_cases h5 : t.size = 0
            · rw [if_pos ((nil_iff t).2 h5)]
              congr 1
              rw [Bool.eq_iff_iff]
              simp only [beq_iff_eq, decide_eq_true_eq, may5 hK]
              omega
            · rw [if_neg (fun h => h5 ((nil_iff t).1 h))]
              congr 1
              exact (decide_eq_false (fun g => h5 ((may5 hK).1 g).2.1)).symm
          · rw [if_neg (fun h => h4 ((nil_iff s).1 h))]
            congr 1
            exact (decide_eq_false (fun g => h4 ((may5 hK).1 g).1)).symm
theorem all_drop {l : List S52} {i : Nat} (h : i < l.length) : all (l.drop i) ↔ may l[i] ∧ all (l.drop (i + 1)) := by
  rw [List.drop_eq_getElem_cons h]
  unfold all
  exact List.forall_mem_cons
theorem rall_l0 (l : List S52) (hl : l.length < 1152921504606846976) : ∀ (d i k : Nat), i + d = l.length → d + 2 < k → sluicegateref31_All.l0 k l (i : Int) = some (decide (all (l.drop i))) := by
  intro d
  induction d with
  | zero =>
    intro i k hi hk
    obtain ⟨k, rfl⟩ : ∃ m, k = m + 1 := ⟨k - 1, by omega⟩
    simp only [sluicegateref31_All.l0]
    rw [if_neg (by omega)]
    have hd : l.drop i = [] := List.drop_of_length_le (by omega)
    rw [hd, decide_eq_true (show all [] from fun o ho => by cases ho)]
  | succ d ih =>
    intro i k hi hk
    obtain ⟨k, rfl⟩ : ∃ m, k = m + 1 := ⟨k - 1, by omega⟩
    have hil : i < l.length := by omega
    simp only [sluicegateref31_All.l0]
    rw [if_pos (by omega), if_pos (by omega), rdT52 hil, wi (by omega), rmay_is _ _ _ _ k (by omega), Option.bind_some]
    have hf := all_drop hil
    by_cases hm : may l[i]
    · rw [if_pos (decide_eq_true (show mayR _ _ _ _ from hm)), ih (i + 1) k (by omega) (by omega)]
      congr 1
      exact decide_eq_decide.2 ⟨fun h => hf.2 ⟨hm, h⟩, fun h => (hf.1 h).2⟩
    · rw [if_neg (by rw [decide_eq_false (show ¬ mayR _ _ _ _ from hm)]; decide), decide_eq_false (fun h => hm (hf.1 h).1)]
theorem rall_calls {w : World} (A : Option Addr) (c : Nat) (l : List S52) (hC : Kd.C k52 w A l.length l) (hc : l.length ≤ c) (hl : l.length < 1152921504606846976) : Calls Try.prog 17 #[.slice A l.length c] w fun e w' => e = .returned (.bool (decide (all l))) ∧ Below w.heap.size w w' :=
  sluicegateref31_All.calls (l.length + 3) A c l _ w hC hc (by
    unfold sluicegateref31_All.f
    have := rall_l0 l hl l.length 0 (l.length + 3) (by omega) (by omega)
    rw [List.drop_zero] at this
    exact this)

/-! Op, Script -/
theorem rop_is {o : S52} (h : may o) : ∀ k, 10 ≤ k → sluicegateref31_Op.f k o.f0 o.f1 o.f2 o.f3 = some (strOfNums (encO o)) := by
  intro k hk
  obtain ⟨k, rfl⟩ : ∃ m, k = m + 1 := ⟨k - 1, by omega⟩
  obtain ⟨K, s, t, n⟩ := o
  have hm : mayR K s t n := h
  obtain ⟨h1, h2, h3, _⟩ := h
  simp only at h1 h2 h3
  unfold encO encR
  simp only
  unfold sluicegateref31_Op.f
  have b1 := rnum_is 1 K (by decide) (by omega) (by omega) (k + 1) (by omega)
  rw [show ((1 : Nat) : Int) = 1 from rfl] at b1
  rw [b1, Option.bind_some]
  have T1 : ∀ (x : ByteArray) (j : Nat), x.size ≤ 65535 → 9 ≤ j → sluicegateref31_text.f j 1 x = some (strOfNums (encT 1 x)) := fun x j hx hj => rtext_is 1 x (by decide) hx j hj
  have T2 : ∀ (x : ByteArray) (j : Nat), x.size ≤ 65535 → 9 ≤ j → sluicegateref31_text.f j 2 x = some (strOfNums (encT 2 x)) := fun x j hx hj => rtext_is 2 x (by decide) hx j hj
  have hj : ∀ K : Int, K = 2 ∨ K = 3 → sluicegateref31_Op.j0 (k + 1) (strOfNums (be 1 K)) K true K s t n = some (strOfNums (be 1 K ++ encT 1 s)) := by
    intro K hK
    simp only [sluicegateref31_Op.j0, if_true]
    rw [T1 s k (by omega) (by omega), Option.bind_some, if_pos (by rw [strOfNums_size, strOfNums_size, be_length, encT_len]; omega), ← str_append]
  have hK : K = 1 ∨ K = 2 ∨ K = 3 ∨ K = 4 ∨ (K = 5 ∨ K = 6 ∨ K = 7) := by omega
  rcases hK with rfl | rfl | rfl | rfl | hK
  · obtain ⟨_, g2, g3⟩ := may1.1 hm
    rw [if_pos rfl, if_pos rfl, T1 s _ (by omega) (by omega), Option.bind_some, if_pos (by rw [strOfNums_size, strOfNums_size, be_length, encT_len]; omega), T2 t _ (by omega) (by omega), Option.bind_some,
      if_pos (by rw [ByteArray.size_append, strOfNums_size, strOfNums_size, strOfNums_size, be_length, encT_len, encT_len]; omega), ← str_append, ← str_append, List.append_assoc]
  · rw [if_neg (by decide), if_pos rfl, if_neg (by decide), if_pos (by decide)]
    exact hj 2 (Or.inl rfl)
  · rw [if_neg (by decide), if_neg (by decide), if_neg (by decide), if_pos (by decide)]
    exact hj 3 (Or.inr rfl)
  · obtain ⟨_, g2, g3, g4⟩ := may4.1 hm
    have b4 := rnum_is 4 n (by decide) g3 (by omega) k (by omega)
    rw [show ((4 : Nat) : Int) = 4 from rfl] at b4
    rw [if_neg (by decide), if_neg (by decide), if_neg (by decide), if_neg (by decide), if_pos rfl]
    simp only [sluicegateref31_Op.j0]
    rw [if_neg (by decide), if_pos trivial, T1 s _ (by omega) (by omega), Option.bind_some, if_pos (by rw [strOfNums_size, strOfNums_size, be_length, encT_len]; omega), T1 t _ (by omega) (by omega), Option.bind_some,
      if_pos (by rw [ByteArray.size_append, strOfNums_size, strOfNums_size, strOfNums_size, be_length, encT_len, encT_len]; omega), b4, Option.bind_some,
      if_pos (by rw [ByteArray.size_append, ByteArray.size_append, strOfNums_size, strOfNums_size, strOfNums_size, strOfNums_size, be_length, be_length, encT_len, encT_len]; omega), ← str_append, ← str_append, ← str_append]
    simp only [List.append_assoc]
  · have e3 : (K == 3) = false := beq_eq_false_iff_ne.2 (by omega)
    rw [if_neg (by omega), if_neg (by omega), if_neg (by omega), if_neg (by omega), if_neg (by omega), e3]
    simp only [sluicegateref31_Op.j0]
    rw [if_neg (by decide), if_neg (by omega), List.append_nil]
theorem encOs_snoc : ∀ (l : List S52) (p : S52), encOs (l ++ [p]) = encOs l ++ encO p
  | [], p => by simp [encOs]
  | q :: t, p => by
    show encO q ++ encOs (t ++ [p]) = _
    rw [encOs_snoc t p]
    simp [encOs]
theorem encOs_app : ∀ (a b : List S52), encOs (a ++ b) = encOs a ++ encOs b
  | [], b => by simp [encOs]
  | q :: t, b => by
    show encO q ++ encOs (t ++ b) = _
    rw [encOs_app t b]
    simp [encOs]
theorem rscript_l0 (l : List S52) (hf : all l) (pre : List Int) (hl : (pre ++ encOs l).length ≤ 1099511627776) (hll : l.length < 1152921504606846976) : ∀ (d i k : Nat), i + d = l.length → d + 10 < k →
    sluicegateref31_Script.l0 k l (strOfNums (pre ++ encOs (l.take i))) (i : Int) = some (strOfNums (pre ++ encOs l)) := by
  intro d
  induction d with
  | zero =>
    intro i k hi hk
    obtain ⟨k, rfl⟩ : ∃ m, k = m + 1 := ⟨k - 1, by omega⟩
    simp only [sluicegateref31_Script.l0]
    rw [if_neg (by omega)]
    have : i = l.length := by omega
    subst this
    rw [List.take_length]
  | succ d ih =>
    intro i k hi hk
    obtain ⟨k, rfl⟩ : ∃ m, k = m + 1 := ⟨k - 1, by omega⟩
    have hil : i < l.length := by omega
    have hm := hf _ (List.getElem_mem hil)
    have hlen : (pre ++ encOs (l.take i)).length + (encO l[i]).length ≤ 1099511627776 := by
      have e := congrArg encOs (List.take_append_drop i l)
      rw [encOs_app, List.drop_eq_getElem_cons hil] at e
      have e2 := congrArg List.length e
      simp only [encOs, List.length_append] at e2
      rw [List.length_append] at hl ⊢
      omega
    simp only [sluicegateref31_Script.l0]
    rw [if_pos (by omega), if_pos (by omega), rdT52 hil, wi (by omega), rop_is hm k (by omega), Option.bind_some, if_pos (by rw [strOfNums_size, strOfNums_size]; omega), ← str_append]
    have e : pre ++ encOs (l.take i) ++ encO l[i] = pre ++ encOs (l.take (i + 1)) := by
      rw [List.take_succ_eq_append_getElem hil, encOs_snoc]
      simp
    rw [e]
    exact ih (i + 1) k (by omega) (by omega)
theorem rscript_calls {w : World} (A : Option Addr) (c : Nat) {l : List S52} (ht : all l) (hC : Kd.C k52 w A l.length l) (hc : l.length ≤ c) (hl : (encS l).length ≤ 1099511627776) (hll : l.length ≤ 65536) :
    Calls Try.prog 19 #[.slice A l.length c] w fun e w' => e = .returned (.string (strOfNums (encS l))) ∧ Below w.heap.size w w' :=
  sluicegateref31_Script.calls (l.length + 11) A c l _ w hC hc (by
    unfold sluicegateref31_Script.f
    have hr := rscript_l0 l ht (be 4 (l.length : Int)) hl (by omega) l.length 0 (l.length + 11) (by omega) (by omega)
    have b3 := rnum_is 4 (l.length : Int) (by decide) (by omega) (by omega) (l.length + 11) (by omega)
    rw [show ((4 : Nat) : Int) = 4 from rfl] at b3
    rw [b3, Option.bind_some]
    rw [List.take_zero, show encOs [] = [] from rfl, List.append_nil] at hr
    exact hr)

/-! same -/
theorem same_l0 (l : List S52) (hll : l.length < 1152921504606846976) : ∀ (d i k : Nat), i + d = l.length → d < k → sluicegatelaw31_same.l0 k l l (i : Int) = some true := by
  intro d
  induction d with
  | zero =>
    intro i k hi hk
    obtain ⟨k, rfl⟩ : ∃ m, k = m + 1 := ⟨k - 1, by omega⟩
    simp only [sluicegatelaw31_same.l0]
    rw [if_neg (by omega)]
  | succ d ih =>
    intro i k hi hk
    obtain ⟨k, rfl⟩ : ∃ m, k = m + 1 := ⟨k - 1, by omega⟩
    simp only [sluicegatelaw31_same.l0]
    rw [if_pos (by omega), if_pos (by omega), if_pos (by omega), if_neg (by simp), wi (by omega)]
    exact ih (i + 1) k (by omega) (by omega)
theorem same_calls {w : World} (A A2 : Option Addr) (c c2 : Nat) (l : List S52) (hC : Kd.C k52 w A l.length l) (hc : l.length ≤ c) (hC2 : Kd.C k52 w A2 l.length l) (hc2 : l.length ≤ c2) (hll : l.length < 1152921504606846976) :
    Calls Try.prog 20 #[.slice A l.length c, .slice A2 l.length c2] w fun e w' => e = .returned (.bool true) ∧ Below w.heap.size w w' :=
  (sluicegatelaw31_same.calls (l.length + 1) A c l A2 c2 l true w hC hc hC2 hc2 (by
    unfold sluicegatelaw31_same.f
    rw [if_pos rfl, show (0 : Int) = ((0 : Nat) : Int) from rfl, same_l0 l hll l.length 0 (l.length + 1) (by omega) (by omega)])).mono (fun e w' ⟨he, hd⟩ => ⟨he, hd.below⟩)
end Go.Proofs.Ytfpdapdnmkadeaa.Wire
