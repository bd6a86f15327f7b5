/- A tuple's key, as bytes: plain. -/
import Derived.Test.YtdekhhimjnockaaDoorWAll
import Derived.Test.YtdekhhimjnockaaDoorSh
import Derived.Lib.ReplaceLaws
import Derived.Lib.LazyBuf
namespace Go.Proofs.YtdekhhimjnockaaDoor.Tu
open Go.RowKit Go.Proofs.YtdekhhimjnockaaDoorW.PrintWords Go.Proofs.YtdekhhimjnockaaDoorW.PrintLast Go.Proofs.YtdekhhimjnockaaDoorW.PrintMore
open Go.Proofs.YtdekhhimjnockaaDoor Go.Proofs.YtdekhhimjnockaaDoor.Vals Go.Proofs.YtdekhhimjnockaaDoor.Word Go.Proofs.YtdekhhimjnockaaDoor.Q
set_option linter.unusedVariables false
set_option linter.unusedSimpArgs false

def escU (l : List UInt8) : List UInt8 := l.flatMap fun c => if c = 0 then [0, 255] else [c]
theorem index_none : ∀ {s : List UInt8}, Lib.index s [0] = -1 → ∀ c ∈ s, c ≠ 0
  | [], _, c, hc => by simp at hc
  | b :: l, h, c, hc => by
    simp only [Lib.index] at h
    by_cases hb : ([0] : List UInt8).isPrefixOf (b :: l) = true
    · rw [if_pos hb] at h; omega
    · rw [if_neg hb] at h
      have hb2 : b ≠ 0 := fun e => hb (by subst e; simp [List.isPrefixOf])
      by_cases hi : Lib.index l [0] = -1
      · rcases List.mem_cons.1 hc with rfl | hc
        · exact hb2
        · exact index_none hi c hc
      · rw [if_neg (by simpa using hi)] at h
        have := Lib.index_ge l [0]
        omega
theorem index_at : ∀ {s : List UInt8} {i : Nat}, Lib.index s [0] = (i : Int) → s = s.take i ++ 0 :: s.drop (i + 1) ∧ ∀ c ∈ s.take i, c ≠ 0
  | [], i, h => by simp [Lib.index] at h
  | b :: l, i, h => by
    simp only [Lib.index] at h
    by_cases hb : ([0] : List UInt8).isPrefixOf (b :: l) = true
    · rw [if_pos hb] at h
      have : i = 0 := by omega
      subst this
      have hb2 : b = 0 := by
        have h3 : ((0 : UInt8) == b && ([] : List UInt8).isPrefixOf l) = true := hb
        rw [Bool.and_eq_true] at h3
        exact (beq_iff_eq.1 h3.1).symm
      subst hb2
      exact ⟨by simp, by simp⟩
    · rw [if_neg hb] at h
      have hb2 : b ≠ 0 := fun e => hb (by subst e; simp [List.isPrefixOf])
      by_cases hi : Lib.index l [0] = -1
      · rw [if_pos (by simpa using hi)] at h; omega
      · rw [if_neg (by simpa using hi)] at h
        obtain ⟨j, rfl⟩ : ∃ j, i = j + 1 := ⟨i - 1, by have := Lib.index_ge l [0]; omega⟩
        obtain ⟨h1, h2⟩ := index_at (s := l) (i := j) (by omega)
        refine ⟨?_, fun c hc => ?_⟩
        · conv => lhs; rw [h1]
          simp
        · rw [List.take_succ_cons] at hc
          rcases List.mem_cons.1 hc with rfl | hc
          · exact hb2
          · exact h2 c hc
theorem escU_app (a b : List UInt8) : escU (a ++ b) = escU a ++ escU b := List.flatMap_append
theorem escU_id : ∀ {l : List UInt8}, (∀ c ∈ l, c ≠ 0) → escU l = l
  | [], _ => rfl
  | c :: l, h => by
    have ih := escU_id (l := l) (fun x hx => h x (List.mem_cons_of_mem _ hx))
    unfold escU at ih ⊢
    rw [List.flatMap_cons, if_neg (h c List.mem_cons_self), ih]
    rfl
theorem rep_fuel : ∀ (fuel : Nat) (s : List UInt8), s.length < fuel → Lib.replaceK [0] [0, 255] (Lib.countFrom [0] fuel s) s = escU s
  | 0, s, h => absurd h (Nat.not_lt_zero _)
  | fuel + 1, s, h => by
    by_cases hi : Lib.index s [0] = -1
    · rw [Lib.countFrom, if_pos (by simpa using hi), Lib.replaceK, escU_id (index_none hi)]
    · have hge := Lib.index_ge s [0]
      obtain ⟨i, hie⟩ : ∃ i : Nat, Lib.index s [0] = (i : Int) := ⟨(Lib.index s [0]).toNat, by omega⟩
      obtain ⟨h1, h2⟩ := index_at hie
      have hil : i < s.length := by
        rcases Nat.lt_or_ge i s.length with h | h
        · exact h
        · have := congrArg List.length h1
          rw [List.take_of_length_le h] at this
          simp at this
      rw [Lib.countFrom, if_neg (by simpa using hi), Nat.add_comm 1, Lib.replaceK_hit _ _ _ _ i hie, hie]
      simp only [Int.toNat_natCast, List.length_singleton]
      rw [rep_fuel fuel (s.drop (i + 1)) (by rw [List.length_drop]; omega)]
      conv => rhs; rw [h1, escU_app, escU_id h2]
      unfold escU
      rw [List.flatMap_cons, if_pos rfl]
      simp
theorem rep_all (s : List UInt8) : Lib.replaceAll s [0] [0, 255] = escU s := by
  unfold Lib.replaceAll Lib.replace Lib.replaceNum
  rw [if_neg (by decide), if_pos (Or.inl (by decide))]
  exact rep_fuel _ s (by omega)
theorem escU_length (l : List UInt8) : (escU l).length ≤ 2 * l.length := by
  induction l with
  | nil => simp [escU]
  | cons c l ih =>
    rw [show escU (c :: l) = (if c = 0 then [0, 255] else [c]) ++ escU l from rfl, List.length_append, List.length_cons]
    by_cases hc : c = 0
    · rw [if_pos hc]; simp; omega
    · rw [if_neg hc]; simp; omega
/-- The bytes of a text, as they stand in a key. -/
def escI (s : ByteArray) : List Int := (escU s.data.toList).map fun c => (c.toNat : Int)
def encP (p : S45) : List Int := if p.f0 then 1 :: be 8 p.f1 else 2 :: (escI p.f2 ++ [0, 1])
def enc (l : List S45) : List Int := l.flatMap encP
theorem enc_app (a b : List S45) : enc (a ++ b) = enc a ++ enc b := List.flatMap_append
theorem enc_nil : enc [] = [] := rfl
theorem enc_one (p : S45) : enc [p] = encP p := by simp [enc]
def mayP (p : S45) : Bool := if p.f0 then p.f2.toList.isEmpty else p.f1 == 0
/-- What a part may be: its number is one. -/
def OkP (p : S45) : Prop := 0 ≤ p.f1 ∧ p.f1 < 18446744073709551616 ∧ p.f2.size ≤ 100000
theorem escI_length (s : ByteArray) : (escI s).length ≤ 2 * s.size := by
  unfold escI
  rw [List.length_map, ← data_length]
  exact escU_length _
theorem encP_length {p : S45} (h : OkP p) : (encP p).length ≤ 200003 := by
  unfold encP
  split
  · rw [List.length_cons, be_length]; omega
  · have := escI_length p.f2
    rw [List.length_cons, List.length_append]
    have := h.2.2
    simp
    omega
theorem enc_length : ∀ {l : List S45}, (∀ p ∈ l, OkP p) → (enc l).length ≤ 200003 * l.length
  | [], _ => by simp [enc]
  | p :: r, h => by
    have h1 := encP_length (h p List.mem_cons_self)
    have h2 := enc_length (l := r) (fun q hq => h q (List.mem_cons_of_mem _ hq))
    rw [show enc (p :: r) = encP p ++ enc r from rfl, List.length_append, List.length_cons]
    omega
end Go.Proofs.YtdekhhimjnockaaDoor.Tu
