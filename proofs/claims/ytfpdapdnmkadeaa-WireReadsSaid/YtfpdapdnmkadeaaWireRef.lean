/- The document's answers for a wire: Told, Answer, Same; as. -/
import Derived.Test.YtfpdapdnmkadeaaWireT
namespace Go.Proofs.Ytfpdapdnmkadeaa.Wire
open Go.RowKit Go.Proofs.YtfpdapdnmkadeaaW.PrintWords Go.Proofs.YtfpdapdnmkadeaaW.PrintLast Go.Proofs.YtfpdapdnmkadeaaW.PrintMore
open Go.Proofs.Ytfpdapdnmkadeaa Go.Proofs.Ytfpdapdnmkadeaa.Vals Go.Proofs.Ytfpdapdnmkadeaa.Word Go.Proofs.Ytfpdapdnmkadeaa.Q
set_option linter.unusedVariables false
set_option linter.unusedSimpArgs false

theorem as_calls (E : Int) (s : ByteArray) (A : Option Addr) (n c : Nat) (w : World) : Calls Try.prog 11 #[.agg #[.int .i64 E, .string s, .slice A n c]] w fun e w' => e = .returned (.agg #[.int .i64 E, .string s, .slice A n c]) ∧ Below w.heap.size w w' := by
  have H2 := Aside0.mk (two_blk w (.cells #[.int .i64 E, .string s, .slice A n c] 25) (.cells #[.int .i64 0, .string ⟨#[]⟩, .slice none 0 0] 34))
  have HB := Aside0.mk (below2 w (.cells #[.int .i64 E, .string s, .slice A n c] 25) (.cells #[.int .i64 0, .string ⟨#[]⟩, .slice none 0 0] 34))
  go_enter Try.func11, Try.ntmps11
  go_upto_region 1 with fail
  generalize (w.alloc (.cells #[.int .i64 E, .string s, .slice A n c] 25)).alloc (.cells #[.int .i64 0, .string ⟨#[]⟩, .slice none 0 0] 34) = w2 at H2 HB ⊢
  have k0 := (blk_cell H2.out.1 0).trans rfl
  have k1 := (blk_cell H2.out.1 1).trans rfl
  have k2 := (blk_cell H2.out.1 2).trans rfl
  have z0 := (blk_cell H2.out.2 0).trans rfl
  have z1 := (blk_cell H2.out.2 1).trans rfl
  have z2 := (blk_cell H2.out.2 2).trans rfl
  have zf := fun i => blk_frozen H2.out.2 i
  go_wp2_with fail
  have hfin := three_put H2.out.2 (.int .i64 E) (.string s) (.slice A n c)
  refine bodyPost_ret (results_cell_row rfl _ _ (w.heap.size + 1) 34 #[.int .i64 E, .string s, .slice A n c] (0, 0) _ rfl hfin.1 Try.underlying34 rfl (by kernel_rfl)) rfl ⟨rfl, ?_⟩
  exact Keeps.below_then HB.out (Nat.le_refl _) hfin.2 (fun j hj => by have h1 : j = w.heap.size + 1 := hj; omega)

theorem rdT {l : List S27} {i : Nat} (h : i < l.length) : rd_T27 l (i : Int) = l[i] := by
  unfold rd_T27
  rw [Int.toNat_natCast, List.getD_eq_getElem?_getD, List.getElem?_eq_getElem h]; rfl
theorem wi {i : Nat} (h : i < 1152921504606846976) : wrap64 ((i : Int) + 1) = ((i + 1 : Nat) : Int) := by unfold wrap64; omega
theorem fitP_drop {l : List S27} {i : Nat} (h : i < l.length) : fitP (l.drop i) ↔ ((l[i]).f0.size ≤ 255 ∧ (l[i]).f1.size ≤ 65535) ∧ fitP (l.drop (i + 1)) := by
  rw [List.drop_eq_getElem_cons h]
  exact ⟨fun h => ⟨h _ List.mem_cons_self, fun q hq => h q (List.mem_cons_of_mem _ hq)⟩, fun h q hq => by rcases List.mem_cons.1 hq with rfl | hq; exact h.1; exact h.2 q hq⟩
theorem rtold_l0 (E : Int) (s : ByteArray) (l : List S27) (hl : l.length < 1152921504606846976) : ∀ (d i k : Nat), i + d = l.length → d < k → sluicegateref31_Told.l0 k (i : Int) E s l = some (decide (fitP (l.drop i) ∧ 0 ≤ E ∧ E ≤ 255 ∧ s.size ≤ 65535)) := by
  intro d
  induction d with
  | zero =>
    intro i k hi hk
    obtain ⟨k, rfl⟩ : ∃ m, k = m + 1 := ⟨k - 1, by omega⟩
    simp only [sluicegateref31_Told.l0]
    rw [if_neg (by omega)]
    have hd : l.drop i = [] := List.drop_of_length_le (by omega)
    have hf : fitP (l.drop i) := by rw [hd]; intro p hp; cases hp
    by_cases h1 : E ≥ 0
    · rw [if_pos h1]
      by_cases h2 : E ≤ 255
      · rw [if_pos h2]
        congr 1
        exact decide_eq_decide.2 ⟨fun h => ⟨hf, h1, h2, by omega⟩, fun h => by omega⟩
      · rw [if_neg h2, decide_eq_false (fun h => h2 h.2.2.1)]
    · rw [if_neg h1, decide_eq_false (fun h => h1 h.2.1)]
  | succ d ih =>
    intro i k hi hk
    obtain ⟨k, rfl⟩ : ∃ m, k = m + 1 := ⟨k - 1, by omega⟩
    have hil : i < l.length := by omega
    simp only [sluicegateref31_Told.l0]
    rw [if_pos (by omega), if_pos (by omega), rdT hil, wi (by omega)]
    have hf := fitP_drop hil
    by_cases h1 : ((l[i]).f0.size : Int) > 255
    · rw [if_pos h1, decide_eq_false (fun h => by have := (hf.1 h.1).1.1; omega)]
    · rw [if_neg h1]
      by_cases h2 : ((l[i]).f1.size : Int) > 65535
      · rw [if_pos h2, decide_eq_false (fun h => by have := (hf.1 h.1).1.2; omega)]
      · rw [if_neg h2, ih (i + 1) k (by omega) (by omega)]
        congr 1
        exact decide_eq_decide.2 ⟨fun h => ⟨hf.2 ⟨⟨by omega, by omega⟩, h.1⟩, h.2⟩, fun h => ⟨(hf.1 h.1).2, h.2⟩⟩
theorem rtold_calls {w : World} (E : Int) (s : ByteArray) (A : Option Addr) (c : Nat) (l : List S27) (hC : Kd.C k27 w A l.length l) (hc : l.length ≤ c) (hl : l.length < 1152921504606846976) : Calls Try.prog 10 #[.agg #[.int .i64 E, .string s, .slice A l.length c]] w fun e w' => e = .returned (.bool (decide (told E s l))) ∧ Below w.heap.size w w' :=
  sluicegateref31_Told.calls (l.length + 1) E s A c l _ w hC hc (by
    unfold sluicegateref31_Told.f
    have := rtold_l0 E s l hl l.length 0 (l.length + 1) (by omega) (by omega)
    rw [List.drop_zero] at this
    exact this)

theorem bytes_k (n : Nat) (x : Int) (hn : wide n) (hx : 0 ≤ x) (hx2 : x < 18446744073709551616) : ∀ k, 9 ≤ k → sluicegateref02_Bytes.f k (n : Int) x = some (be n x) := by
  intro k hk
  obtain ⟨d, rfl⟩ : ∃ d, k = 9 + d := ⟨k - 9, by omega⟩
  clear hk
  induction d with
  | zero => exact bytes_wide n x hn hx hx2
  | succ d ih => exact sluicegateref02_Bytes.mono _ _ _ _ ih
theorem rnum_is (n : Nat) (x : Int) (hn : wide n) (hx : 0 ≤ x) (hx2 : x < 18446744073709551616) (k : Nat) (hk : 9 ≤ k) : sluicegateref31_num.f k (n : Int) x = some (strOfNums (be n x)) := by
  have hw : IntKind.u64.wrap x = x := by simp [IntKind.wrap, IntKind.signed, IntKind.bits]; omega
  unfold sluicegateref31_num.f
  rw [hw, bytes_k n x hn hx hx2 k hk]
  rfl
theorem str_bytes (s : ByteArray) : strOfNums (bytesOf s) = s := by
  apply ByteArray.ext
  unfold bytesOf strOfNums
  have hid : ((fun n : Int => UInt8.ofNat n.toNat) ∘ fun b : UInt8 => (b.toNat : Int)) = id := by funext b; simp
  rw [List.map_map, hid, List.map_id]
theorem encT_str (k : Nat) (s : ByteArray) : strOfNums (encT k s) = strOfNums (be k (s.size : Int)) ++ s := by unfold encT; rw [str_append, str_bytes]
theorem rtext_is (n : Nat) (s : ByteArray) (hn : wide n) (hs : s.size ≤ 65535) (k : Nat) (hk : 9 ≤ k) : sluicegateref31_text.f k (n : Int) s = some (strOfNums (encT n s)) := by
  unfold sluicegateref31_text.f
  rw [rnum_is n _ hn (by omega) (by omega) k hk, Option.bind_some]
  have hn8 : n ≤ 8 := by unfold wide at hn; omega
  rw [if_pos (by rw [strOfNums_size, be_length]; omega), encT_str]
theorem encT_len (k : Nat) (s : ByteArray) : (encT k s).length = k + s.size := by unfold encT; rw [List.length_append, be_length, bytesOf_length]
theorem encP_snoc : ∀ (l : List S27) (p : S27), encP (l ++ [p]) = encP l ++ (encT 1 p.f0 ++ encT 2 p.f1)
  | [], p => by simp [encP]
  | q :: t, p => by
    show encT 1 q.f0 ++ encT 2 q.f1 ++ encP (t ++ [p]) = _
    rw [encP_snoc t p]
    simp [encP]
theorem ranswer_l0 (E : Int) (s : ByteArray) (l : List S27) (hf : fitP l) (pre : List Int) (hl : (pre ++ encP l).length ≤ 8388608) (hll : l.length < 1152921504606846976) : ∀ (d i k : Nat), i + d = l.length → d + 9 < k →
    sluicegateref31_Answer.l0 k (strOfNums (pre ++ encP (l.take i))) (i : Int) E s l = some (strOfNums (pre ++ encP l)) := by
  intro d
  induction d with
  | zero =>
    intro i k hi hk
    obtain ⟨k, rfl⟩ : ∃ m, k = m + 1 := ⟨k - 1, by omega⟩
    simp only [sluicegateref31_Answer.l0]
    rw [if_neg (by omega)]
    have : i = l.length := by omega
    subst this
    rw [List.take_length]
  | succ d ih =>
    intro i k hi hk
    obtain ⟨k, rfl⟩ : ∃ m, k = m + 1 := ⟨k - 1, by omega⟩
    have hil : i < l.length := by omega
    obtain ⟨h1, h2⟩ := hf _ (List.getElem_mem hil)
    have hlen : (pre ++ encP (l.take i)).length ≤ 8388608 := by
      have e : l = l.take i ++ l.drop i := (List.take_append_drop i l).symm
      have e2 : ∀ (a b : List S27), (encP (a ++ b)).length = (encP a).length + (encP b).length := by
        intro a b
        induction a with
        | nil => simp [encP]
        | cons q t iq => simp only [List.cons_append, encP, List.length_append, iq]; omega
      have e3 := e2 (l.take i) (l.drop i)
      rw [← e] at e3
      rw [List.length_append] at hl ⊢
      omega
    simp only [sluicegateref31_Answer.l0]
    rw [if_pos (by omega), if_pos (by omega), rdT hil, wi (by omega), show (1 : Int) = ((1 : Nat) : Int) from rfl, rtext_is 1 _ (by decide) (by omega) k (by omega), Option.bind_some]
    rw [if_pos (by rw [strOfNums_size, strOfNums_size, encT_len]; omega), show (2 : Int) = ((2 : Nat) : Int) from rfl, rtext_is 2 _ (by decide) (by omega) k (by omega), Option.bind_some,
      if_pos (by rw [ByteArray.size_append, strOfNums_size, strOfNums_size, strOfNums_size, encT_len, encT_len]; omega), ← str_append, ← str_append]
    have e : pre ++ encP (l.take i) ++ encT 1 (l[i]).f0 ++ encT 2 (l[i]).f1 = pre ++ encP (l.take (i + 1)) := by
      rw [List.take_succ_eq_append_getElem hil, encP_snoc]
      simp
    rw [e]
    exact ih (i + 1) k (by omega) (by omega)
theorem ranswer_calls {w : World} {E : Int} {s : ByteArray} (A : Option Addr) (c : Nat) {l : List S27} (ht : told E s l) (hC : Kd.C k27 w A l.length l) (hc : l.length ≤ c) (hl : (encA E s l).length ≤ 8388608) (hll : l.length ≤ 65536) :
    Calls Try.prog 13 #[.agg #[.int .i64 E, .string s, .slice A l.length c]] w fun e w' => e = .returned (.string (strOfNums (encA E s l))) ∧ Below w.heap.size w w' :=
  sluicegateref31_Answer.calls (l.length + 11) E s A c l _ w hC hc (by
    obtain ⟨h1, h2, h3, h4⟩ := ht
    unfold sluicegateref31_Answer.f
    have hr := ranswer_l0 E s l h1 (be 1 E ++ encT 2 s ++ be 4 (l.length : Int)) hl (by omega) l.length 0 (l.length + 11) (by omega) (by omega)
    have b1 := rnum_is 1 E (by decide) h2 (by omega) (l.length + 11) (by omega)
    have b2 := rtext_is 2 s (by decide) h4 (l.length + 11) (by omega)
    have b3 := rnum_is 4 (l.length : Int) (by decide) (by omega) (by omega) (l.length + 11) (by omega)
    rw [show (1 : Int) = ((1 : Nat) : Int) from rfl, b1, Option.bind_some, show (2 : Int) = ((2 : Nat) : Int) from rfl, b2, Option.bind_some, if_pos (by rw [strOfNums_size, strOfNums_size, encT_len, be_length]; omega), show (4 : Int) = ((4 : Nat) : Int) from rfl, b3, Option.bind_some,
      if_pos (by rw [ByteArray.size_append, strOfNums_size, strOfNums_size, strOfNums_size, encT_len, be_length, be_length]; omega), ← str_append, ← str_append]
    rw [List.take_zero, show encP [] = [] from rfl, List.append_nil] at hr
    exact hr)

theorem rsame_l0 (l : List S27) (hll : l.length < 1152921504606846976) : ∀ (d i k : Nat), i + d = l.length → d < k → sluicegateref11_Same.l0 k l l (i : Int) = some true := by
  intro d
  induction d with
  | zero =>
    intro i k hi hk
    obtain ⟨k, rfl⟩ : ∃ m, k = m + 1 := ⟨k - 1, by omega⟩
    simp only [sluicegateref11_Same.l0]
    rw [if_neg (by omega)]
  | succ d ih =>
    intro i k hi hk
    obtain ⟨k, rfl⟩ : ∃ m, k = m + 1 := ⟨k - 1, by omega⟩
    simp only [sluicegateref11_Same.l0]
    rw [if_pos (by omega), if_pos (by omega), if_pos (by omega), if_neg (by simp), wi (by omega)]
    exact ih (i + 1) k (by omega) (by omega)
theorem rsame_calls {w : World} (E : Int) (s : ByteArray) (A A2 : Option Addr) (c c2 : Nat) (l : List S27) (hC : Kd.C k27 w A l.length l) (hc : l.length ≤ c) (hC2 : Kd.C k27 w A2 l.length l) (hc2 : l.length ≤ c2) (hll : l.length < 1152921504606846976) :
    Calls Try.prog 14 #[.agg #[.int .i64 E, .string s, .slice A l.length c], .agg #[.int .i64 E, .string s, .slice A2 l.length c2]] w fun e w' => e = .returned (.bool true) ∧ Below w.heap.size w w' :=
  sluicegateref27_Same.calls (l.length + 1) E s A c l E s A2 c2 l true w hC hc hC2 hc2 (by
    unfold sluicegateref27_Same.f sluicegateref11_Same.f
    rw [if_pos rfl, if_pos rfl, if_pos rfl, show (0 : Int) = ((0 : Nat) : Int) from rfl, rsame_l0 l hll l.length 0 (l.length + 1) (by omega) (by omega)]
    rfl)
end Go.Proofs.Ytfpdapdnmkadeaa.Wire
