/- The bytes of numbers as strings: how they stand. -/
import Derived.Test.YtceaddpbebaldaaWordMath
import Derived.Lib.Bytes
namespace Go.Proofs.Ytceaddpbebaldaa.Word
open Go.RowKit
set_option linter.unusedVariables false
theorem u8_lt {a b : Nat} (ha : a < 256) (hb : b < 256) : (UInt8.ofNat a < UInt8.ofNat b) ↔ a < b := by
  rw [UInt8.lt_iff_toNat_lt, UInt8.toNat_ofNat', UInt8.toNat_ofNat']
  omega
theorem u8_eq {a b : Nat} (ha : a < 256) (hb : b < 256) : (UInt8.ofNat a = UInt8.ofNat b) ↔ a = b := by
  constructor
  · intro h
    have := congrArg UInt8.toNat h
    rw [UInt8.toNat_ofNat', UInt8.toNat_ofNat'] at this
    omega
  · rintro rfl; rfl
theorem less_map : ∀ {l m : List Nat}, (∀ c ∈ l, c < 256) → (∀ c ∈ m, c < 256) → Op.bytesLess (l.map UInt8.ofNat) (m.map UInt8.ofNat) = decide (l < m)
  | _, [], _, _ => by cases ‹List Nat› <;> simp [Op.bytesLess]
  | [], b :: m, _, _ => by simp [Op.bytesLess]
  | a :: l, b :: m, hl, hm => by
    have ha := hl a (by simp)
    have hb := hm b (by simp)
    have ih := less_map (l := l) (m := m) (fun c hc => hl c (List.mem_cons_of_mem _ hc)) (fun c hc => hm c (List.mem_cons_of_mem _ hc))
    simp only [List.map_cons, Op.bytesLess, ih, List.cons_lt_cons_iff]
    rw [Bool.eq_iff_iff]
    simp [u8_lt ha hb, u8_eq ha hb]
theorem eq_map : ∀ {l m : List Nat}, (∀ c ∈ l, c < 256) → (∀ c ∈ m, c < 256) → (l.map UInt8.ofNat = m.map UInt8.ofNat ↔ l = m)
  | [], [], _, _ => by simp
  | [], b :: m, _, _ => by simp
  | a :: l, [], _, _ => by simp
  | a :: l, b :: m, hl, hm => by
    have ha := hl a (by simp)
    have hb := hm b (by simp)
    have ih := eq_map (l := l) (m := m) (fun c hc => hl c (List.mem_cons_of_mem _ hc)) (fun c hc => hm c (List.mem_cons_of_mem _ hc))
    simp only [List.map_cons, List.cons.injEq, u8_eq ha hb, ih]
theorem be_str (n a : Nat) : (strOfNums (be n (a : Int))).toList = (beN n a).map UInt8.ofNat := by
  rw [Lib.strOfNums_toList, be_nat]
  simp [Lib.bytesOf]
end Go.Proofs.Ytceaddpbebaldaa.Word
