/- What the document's Read comes to, and that both read alike: plain. -/
import Derived.Test.YtdekhhimjnockaaDoorTuRR
namespace Go.Proofs.YtdekhhimjnockaaDoor.Tu
open Go.RowKit Go.Proofs.YtdekhhimjnockaaDoorW.PrintWords Go.Proofs.YtdekhhimjnockaaDoorW.PrintLast Go.Proofs.YtdekhhimjnockaaDoorW.PrintMore
open Go.Proofs.YtdekhhimjnockaaDoor Go.Proofs.YtdekhhimjnockaaDoor.Vals Go.Proofs.YtdekhhimjnockaaDoor.Word Go.Proofs.YtdekhhimjnockaaDoor.Q Go.Proofs.YtdekhhimjnockaaDoor.S
set_option linter.unusedVariables false
set_option linter.unusedSimpArgs false

def Fine (m : List S59) : Prop := ∀ p ∈ m, mayP (to45 p) = true ∧ OkP (to45 p)
def after (k : Nat) (x0 : ByteArray) (x4 : List S59) (x5 : ByteArray) (n : Nat) (a : Bool) (b : Int) (s : ByteArray) : Option Out := if n < 2 then some ([], false) else sluicegateref37_Read.l0 k x0 (x4 ++ [⟨a, b, s⟩]) (x5.extract n x5.size)
theorem l2_tot (x0 : ByteArray) (x4 : List S59) (x5 : ByteArray) (hs : x5.size ≤ 100000) (h4 : x4.length < 4398046511104) (n : Nat) (hn : n ≤ x5.size) (a : Bool) (b : Int) :
    ∀ (d i : Nat) (s : List UInt8), n - i ≤ d → i ≤ 100000 → s.length ≤ i → ∃ s' : List UInt8, s'.length ≤ 100000 ∧ ∀ R, Ev (fun k => after k x0 x4 x5 n a b ⟨s'.toArray⟩) R → Ev (fun k => sluicegateref37_Read.l2 k x0 x4 x5 (n : Int) (i : Int) a b ⟨s.toArray⟩) R := by
  intro d
  induction d with
  | zero =>
    intro i s hd hi hsl
    exact ⟨s, by omega, fun R h => Ev.step (r_l2end x0 x4 x5 n i (by omega) a b _ (by omega) hn h4) h⟩
  | succ d ih =>
    intro i s hd hi hsl
    by_cases h : i + 2 < n
    · have hl := data_length x5
      have hD : x5.data.toList.drop i = x5.data.toList[i]'(by omega) :: x5.data.toList.drop (i + 1) := List.drop_eq_getElem_cons (by omega)
      generalize x5.data.toList[i]'(by omega) = c at hD
      obtain ⟨j, hj, j1, j2⟩ : ∃ j, (if c = 0 then i + 2 else i + 1) = j ∧ i + 1 ≤ j ∧ j ≤ i + 2 := ⟨_, rfl, by split <;> omega, by split <;> omega⟩
      obtain ⟨s', h1, h2⟩ := ih j (s ++ [c]) (by omega) (by omega) (by rw [List.length_append, List.length_singleton]; omega)
      exact ⟨s', h1, fun R h3 => Ev.step (fun k => by rw [r_l2 x0 x4 x5 hs n i a b s hsl c _ hD h, hj]) (h2 R h3)⟩
    · exact ⟨s, by omega, fun R h3 => Ev.step (r_l2end x0 x4 x5 n i (by omega) a b _ h hn h4) h3⟩
theorem l2_esc (x0 : ByteArray) (x4 : List S59) (x5 : ByteArray) (hs : x5.size ≤ 100000) (h4 : x4.length < 4398046511104) (n : Nat) (hn : n ≤ x5.size) (a : Bool) (b : Int) (R : Out) (r : List UInt8) :
    ∀ (t : List UInt8) (i : Nat) (s : List UInt8), x5.data.toList.drop i = escU t ++ 0 :: 1 :: r → n = i + (escU t).length + 2 → s.length ≤ i → Ev (fun k => after k x0 x4 x5 n a b ⟨(s ++ t).toArray⟩) R → Ev (fun k => sluicegateref37_Read.l2 k x0 x4 x5 (n : Int) (i : Int) a b ⟨s.toArray⟩) R
  | [], i, s, h, hni, hsl, hR => by
    have : n = i + 2 := hni
    rw [List.append_nil] at hR
    exact Ev.step (r_l2end x0 x4 x5 n i (by omega) a b _ (by omega) hn h4) hR
  | c :: t, i, s, h, hni, hsl, hR => by
    rw [escU_cons] at h hni
    rw [show s ++ c :: t = (s ++ [c]) ++ t from by simp] at hR
    by_cases hc : c = 0
    · subst hc
      rw [if_pos rfl] at h hni
      have hln : (([0, 255] : List UInt8) ++ escU t).length = (escU t).length + 2 := by simp
      rw [hln] at hni
      have h2 : x5.data.toList.drop i = 0 :: 255 :: (escU t ++ 0 :: 1 :: r) := by rw [h]; simp
      have h3 := (bt_drop (bt_drop h2).2.2).2.2
      exact Ev.step (fun k => by rw [r_l2 x0 x4 x5 hs n i a b s hsl 0 _ h2 (by omega), if_pos rfl]) (l2_esc x0 x4 x5 hs h4 n hn a b R r t (i + 2) (s ++ [0]) h3 (by omega) (by rw [List.length_append, List.length_singleton]; omega) hR)
    · rw [if_neg hc] at h hni
      have hln : (([c] : List UInt8) ++ escU t).length = (escU t).length + 1 := by simp
      rw [hln] at hni
      have h2 : x5.data.toList.drop i = c :: (escU t ++ 0 :: 1 :: r) := by rw [h]; simp
      have h3 := (bt_drop h2).2.2
      exact Ev.step (fun k => by rw [r_l2 x0 x4 x5 hs n i a b s hsl c _ h2 (by omega), if_neg hc]) (l2_esc x0 x4 x5 hs h4 n hn a b R r t (i + 1) (s ++ [c]) h3 (by omega) (by rw [List.length_append, List.length_singleton]; omega) hR)
theorem r_num (x0 : ByteArray) (x4 : List S59) (x5 : ByteArray) (hs : x5.size ≤ 100000) (h4 : x4.length < 4398046511104) (r : List UInt8) (h : x5.data.toList = 1 :: r) (h8 : 8 ≤ r.length) (R : Out)
    (hR : Ev (fun k => sluicegateref37_Read.l0 k x0 (x4 ++ [⟨true, num (intsU (r.take 8)), ⟨#[]⟩⟩]) (x5.extract 9 x5.size)) R) : Ev (fun k => sluicegateref37_Read.l0 k x0 x4 x5) R := by
  have hl := data_length x5
  rw [h, List.length_cons] at hl
  refine Ev.step (fun k => by rw [r_l0 x0 x4 x5 1 r h, if_pos rfl, decide_eq_true (by omega)]) (Ev.step (r_j1t x0 x4 x5 0 false 0 _) ?_)
  refine r_l1 x0 x4 x5 r h h8 hs true _ R ?_ 8 0 rfl (Nat.zero_le _)
  refine Ev.step (fun k => by
    have h3 := r_j3 x0 x4 x5 1 r h 9 true (num (intsU (r.take 8))) ⟨#[]⟩ (by omega) h4 k
    rw [if_neg (by decide), if_neg (by decide)] at h3
    exact h3) hR
theorem r_none (x0 : ByteArray) (x4 : List S59) (x5 : ByteArray) (h4 : x4.length < 4398046511104) (c : UInt8) (r : List UInt8) (h : x5.data.toList = c :: r) (h1 : ¬ (c = 1 ∧ 8 ≤ r.length)) (h2 : c ≠ 2) : Ev (fun k => sluicegateref37_Read.l0 k x0 x4 x5) ([], false) := by
  have hl := data_length x5
  rw [h, List.length_cons] at hl
  have hj : Ev (fun k => sluicegateref37_Read.j1 k x0 x4 x5 0 false false 0 ⟨#[]⟩) ([], false) := by
    refine Ev.step (r_j1f x0 x4 x5 0 false 0 _) (Ev.step (fun k => by
      have h3 := r_j3 x0 x4 x5 c r h 0 false 0 ⟨#[]⟩ (Nat.zero_le _) h4 k
      rw [if_neg h2, if_pos (by decide)] at h3
      exact h3) (Ev.now _))
  refine Ev.step (fun k => r_l0 x0 x4 x5 c r h k) ?_
  by_cases hc : c = 1
  · have h9 : decide ((x5.size : Int) ≥ 9) = false := decide_eq_false (by have : ¬ 8 ≤ r.length := fun h8 => h1 ⟨hc, h8⟩; omega)
    simp only [if_pos hc, h9]
    exact hj
  · simp only [if_neg hc]
    exact hj
theorem r_text (x0 : ByteArray) (x4 : List S59) (x5 : ByteArray) (hs : x5.size ≤ 100000) (h4 : x4.length < 4398046511104) (r : List UInt8) (h : x5.data.toList = 2 :: r) (n : Nat) (hn : n ≤ 100000)
    (he : Ev (fun k => sluicegateref37_end.f k (x5.extract 1 x5.size)) (n : Int)) (R : Out) (hR : Ev (fun k => sluicegateref37_Read.l2 k x0 x4 x5 ((n + 1 : Nat) : Int) ((1 : Nat) : Int) false 0 ⟨([] : List UInt8).toArray⟩) R) : Ev (fun k => sluicegateref37_Read.l0 k x0 x4 x5) R := by
  refine Ev.step (fun k => by rw [r_l0 x0 x4 x5 2 r h, if_neg (by decide)]) (Ev.step (r_j1f x0 x4 x5 0 false 0 _) (Ev.step (fun k => by
    have h3 := r_j3 x0 x4 x5 2 r h 0 false 0 ⟨#[]⟩ (Nat.zero_le _) h4 k
    rw [if_pos rfl] at h3
    exact h3) (Ev.bind he ?_)))
  rw [show wrap64 ((n : Int) + 1) = ((n + 1 : Nat) : Int) from by unfold wrap64; omega]
  exact hR
theorem r_end (x0 : ByteArray) (x4 : List S59) (x5 : ByteArray) (h : x5.data.toList = []) (hl : x4.length ≤ 100000) (hf : Fine x4) : Ev (fun k => sluicegateref37_Read.l0 k x0 x4 x5) (x4, ((strOfNums (enc (x4.map to45))).toList == x0.toList)) := by
  have h0 : x5.size = 0 := by rw [← data_length, h]; rfl
  refine Ev.step (f := fun k => (sluicegateref37_Key.f k x4).bind fun t141 => some (x4, (t141.toList == x0.toList))) (fun k => by
    simp only [sluicegateref37_Read.l0]
    rw [if_neg (by omega)]) ?_
  exact Ev.bind (key_ev x4 hl (fun p hp => (hf p hp).2)) (Ev.now _)
theorem Fine.app {x4 : List S59} (h : Fine x4) {p : S59} (hm : mayP (to45 p) = true) (ho : OkP (to45 p)) : Fine (x4 ++ [p]) := by
  intro q hq
  rcases List.mem_append.1 hq with hq | hq
  · exact h q hq
  · rcases List.mem_singleton.1 hq with rfl
    exact ⟨hm, ho⟩
theorem fine_num {bs : List Int} (hb : Byte bs) (hl : bs.length = 8) : mayP (to45 ⟨true, num bs, ⟨#[]⟩⟩) = true ∧ OkP (to45 ⟨true, num bs, ⟨#[]⟩⟩) := by
  refine ⟨?_, (num8_bd hb hl).1, (num8_bd hb hl).2, by show (0 : Nat) ≤ 100000; omega⟩
  show (⟨#[]⟩ : ByteArray).toList.isEmpty = true
  rw [Lib.toList_data]
  rfl
theorem fine_text {s : List UInt8} (hs : s.length ≤ 100000) : mayP (to45 ⟨false, 0, ⟨s.toArray⟩⟩) = true ∧ OkP (to45 ⟨false, 0, ⟨s.toArray⟩⟩) := by
  refine ⟨rfl, by show (0 : Int) ≤ 0; omega, by show (0 : Int) < 18446744073709551616; omega, ?_⟩
  have h5 : (⟨s.toArray⟩ : ByteArray).size = s.length := by simp [ByteArray.size]
  show (⟨s.toArray⟩ : ByteArray).size ≤ 100000
  omega
theorem read_tot (x0 : ByteArray) (hx0 : x0.size ≤ 100000) : ∀ (N : Nat) (x4 : List S59) (x5 : ByteArray), x5.size ≤ N → x4.length + x5.size ≤ x0.size → Fine x4 →
    ∃ m b, Ev (fun k => sluicegateref37_Read.l0 k x0 x4 x5) (m, b) ∧ (b = true → x0 = strOfNums (enc (m.map to45)) ∧ Fine m) := by
  intro N
  induction N with
  | zero =>
    intro x4 x5 hN hI hf
    have hd : x5.data.toList = [] := List.length_eq_zero_iff.1 (by rw [data_length]; omega)
    exact ⟨_, _, r_end x0 x4 x5 hd (by omega) hf, fun h => ⟨((ba_beq _ _).1 h).symm, hf⟩⟩
  | succ N ih =>
    intro x4 x5 hN hI hf
    have hl := data_length x5
    cases hd : x5.data.toList with
    | nil => exact ⟨_, _, r_end x0 x4 x5 hd (by omega) hf, fun h => ⟨((ba_beq _ _).1 h).symm, hf⟩⟩
    | cons c r =>
      rw [hd, List.length_cons] at hl
      have h4 : x4.length < 4398046511104 := by omega
      by_cases h1 : c = 1 ∧ 8 ≤ r.length
      · obtain ⟨rfl, h8⟩ := h1
        have hfn := fine_num (intsU_byte (r.take 8)) (by unfold intsU; rw [List.length_map, List.length_take]; omega)
        have hes := e_size x5 (i := 9) (by omega)
        obtain ⟨m, b, g1, g2⟩ := ih (x4 ++ [⟨true, num (intsU (r.take 8)), ⟨#[]⟩⟩]) (x5.extract 9 x5.size) (by omega) (by rw [List.length_append, List.length_singleton]; omega) (hf.app hfn.1 hfn.2)
        exact ⟨m, b, r_num x0 x4 x5 (by omega) h4 r hd h8 _ g1, g2⟩
      · by_cases h2 : c = 2
        · subst h2
          have hes := e_size x5 (i := 1) (by omega)
          obtain ⟨n, hn, hnb⟩ := end_tot (x5.extract 1 x5.size) (by omega) (x5.extract 1 x5.size).size 0 (by omega) (by omega)
          obtain ⟨s', hsl, hs'⟩ := l2_tot x0 x4 x5 (by omega) h4 (n + 1) (by omega) false 0 (n + 1) 1 [] (by omega) (by omega) (Nat.zero_le _)
          by_cases hn0 : n = 0
          · subst hn0
            refine ⟨[], false, r_text x0 x4 x5 (by omega) h4 r hd 0 (by omega) hn _ (hs' _ ?_), fun h => (by cases h)⟩
            exact Ev.congr (fun k => by unfold after; rw [if_pos (by decide)]) (Ev.now _)
          · have hft := fine_text hsl
            have hes2 := e_size x5 (i := n + 1) (by omega)
            obtain ⟨m, b, g1, g2⟩ := ih (x4 ++ [⟨false, 0, ⟨s'.toArray⟩⟩]) (x5.extract (n + 1) x5.size) (by omega) (by rw [List.length_append, List.length_singleton]; omega) (hf.app hft.1 hft.2)
            refine ⟨m, b, r_text x0 x4 x5 (by omega) h4 r hd n (by omega) hn _ (hs' _ ?_), g2⟩
            exact Ev.congr (fun k => by unfold after; rw [if_neg (by omega)]) g1
        · exact ⟨[], false, r_none x0 x4 x5 h4 c r hd h1 h2, fun h => (by cases h)⟩
theorem enc_len_pos (p : S45) (l : List S45) : (encU (p :: l)).length ≥ (encU l).length + 1 := by
  obtain ⟨f0, f1, f2⟩ := p
  cases f0
  · rw [encU_text]; simp; try omega
  · rw [encU_num]; simp; try omega
theorem read_enc (x0 : ByteArray) (hx0 : x0.size ≤ 100000) : ∀ (l : List S59) (x4 : List S59) (x5 : ByteArray), x5.data.toList = encU (l.map to45) → x4.length + x5.size ≤ x0.size → Fine x4 → Fine l → x0 = strOfNums (enc ((x4 ++ l).map to45)) →
    Ev (fun k => sluicegateref37_Read.l0 k x0 x4 x5) (x4 ++ l, true)
  | [], x4, x5, h, hI, hf, hfl, h0 => by
    have hr := r_end x0 x4 x5 h (by omega) hf
    rw [List.append_nil] at h0 ⊢
    rw [(ba_beq _ _).2 h0.symm] at hr
    exact hr
  | ⟨true, f1, f2⟩ :: l, x4, x5, h, hI, hf, hfl, h0 => by
    obtain ⟨hm, ho⟩ := hfl _ List.mem_cons_self
    obtain rfl : f2 = ⟨#[]⟩ := empty_of hm
    have hl := data_length x5
    have h' : x5.data.toList = 1 :: (toU (be 8 f1) ++ encU (l.map to45)) := h.trans (encU_num _ _ _)
    have hl8 : (toU (be 8 f1)).length = 8 := by rw [toU_length, be_length]
    have h4 : x4.length < 4398046511104 := by omega
    rw [h', List.length_cons, List.length_append, hl8] at hl
    have ht : (toU (be 8 f1) ++ encU (l.map to45)).take 8 = toU (be 8 f1) := by rw [List.take_append_of_le_length (by omega), List.take_of_length_le (by omega)]
    have hes := e_size x5 (i := 9) (by omega)
    have hx : (x5.extract 9 x5.size).data.toList = encU (l.map to45) := by
      rw [Lib.extract_to_end, h', List.drop_succ_cons, List.drop_append_of_le_length (by omega), List.drop_of_length_le (by omega)]
      rfl
    have hn : num (intsU (toU (be 8 f1))) = f1 := by rw [intsU_toU (be8_byte f1)]; exact num_be' (k := 8) ho.1 (by have := ho.2.1; simpa [to45] using this)
    refine r_num x0 x4 x5 (by omega) h4 _ h' (by rw [List.length_append]; omega) _ ?_
    rw [ht, hn]
    have ih := read_enc x0 hx0 l (x4 ++ [⟨true, f1, ⟨#[]⟩⟩]) (x5.extract 9 x5.size) hx (by rw [List.length_append, List.length_singleton]; omega) (hf.app hm ho) (fun p hp => hfl p (List.mem_cons_of_mem _ hp)) (by rw [h0]; simp)
    rw [List.append_assoc] at ih
    exact ih
  | ⟨false, f1, f2⟩ :: l, x4, x5, h, hI, hf, hfl, h0 => by
    obtain ⟨hm, ho⟩ := hfl _ List.mem_cons_self
    obtain rfl : f1 = 0 := beq_iff_eq.1 hm
    have hl := data_length x5
    have h' : x5.data.toList = 2 :: (escU f2.data.toList ++ 0 :: 1 :: encU (l.map to45)) := h.trans (encU_text _ _ _)
    have h4 : x4.length < 4398046511104 := by omega
    rw [h', List.length_cons, List.length_append, List.length_cons, List.length_cons] at hl
    have hes := e_size x5 (i := 1) (by omega)
    have hx1 : (x5.extract 1 x5.size).data.toList = escU f2.data.toList ++ 0 :: 1 :: encU (l.map to45) := by rw [Lib.extract_to_end, h']; rfl
    have he := end_esc (x5.extract 1 x5.size) (by omega) (encU (l.map to45)) f2.data.toList 0 (by rw [List.drop_zero]; exact hx1)
    rw [Nat.zero_add] at he
    have hes2 := e_size x5 (i := (escU f2.data.toList).length + 2 + 1) (by omega)
    have hx2 : (x5.extract ((escU f2.data.toList).length + 2 + 1) x5.size).data.toList = encU (l.map to45) := by
      rw [Lib.extract_to_end, h', List.drop_succ_cons, List.drop_append, List.drop_of_length_le (by omega), Nat.add_sub_cancel_left]
      rfl
    have ih := read_enc x0 hx0 l (x4 ++ [⟨false, 0, f2⟩]) _ hx2 (by rw [List.length_append, List.length_singleton]; omega) (hf.app hm ho) (fun p hp => hfl p (List.mem_cons_of_mem _ hp)) (by rw [h0]; simp)
    rw [List.append_assoc] at ih
    refine r_text x0 x4 x5 (by omega) h4 _ h' ((escU f2.data.toList).length + 2) (by omega) he _ ?_
    refine l2_esc x0 x4 x5 (by omega) h4 _ (by omega) false 0 _ (encU (l.map to45)) f2.data.toList 1 [] (by rw [h']; rfl) (by omega) (Nat.zero_le _) ?_
    rw [List.nil_append, ba_eta]
    exact Ev.congr (fun k => by unfold after; rw [if_neg (by omega)]) ih
theorem fine_of {l : List S45} (hm : ∀ p ∈ l, mayP p = true) (ho : ∀ p ∈ l, OkP p) : Fine (l.map to59) := by
  intro q hq
  obtain ⟨p, hp, rfl⟩ := List.mem_map.1 hq
  exact ⟨hm p hp, ho p hp⟩
theorem ref_read_some {key : ByteArray} (hk : key.size ≤ 100000) {l : List S45} (h : readU key = some l) : Ev (fun k => sluicegateref37_Read.f k key) (l.map to59, true) := by
  obtain ⟨h1, h2, h3⟩ := readU_back h hk
  have := read_enc key hk (l.map to59) [] key (by rw [to45_59]; conv => lhs; rw [h1]
                                                  rfl) (by simp) (fun p hp => by simp at hp) (fine_of h2 h3) (by rw [List.nil_append, to45_59]; exact h1)
  exact this
theorem ref_read_none {key : ByteArray} (hk : key.size ≤ 100000) (h : readU key = none) : ∃ m, Ev (fun k => sluicegateref37_Read.f k key) (m, false) := by
  obtain ⟨m, b, h1, h2⟩ := read_tot key hk key.size [] key (Nat.le_refl _) (by simp) (fun p hp => by simp at hp)
  cases b with
  | false => exact ⟨m, h1⟩
  | true =>
    obtain ⟨h3, h4⟩ := h2 rfl
    exfalso
    have h5 := readU_enc (l := m.map to45) (fun p hp => by
      obtain ⟨q, hq, rfl⟩ := List.mem_map.1 hp
      exact (h4 q hq).1) (fun p hp => by
      obtain ⟨q, hq, rfl⟩ := List.mem_map.1 hp
      exact (h4 q hq).2)
    rw [← h3, h] at h5
    cases h5
end Go.Proofs.YtdekhhimjnockaaDoor.Tu
