/- The bound of changes, and what ops come to together: no memory. -/
import Derived.Test.YtkpdcacfokcpnaaHCheck
import Derived.Test.YtkpdcacfokcpnaaConfRef
import Derived.Test.YtkpdcacfokcpnaaQ4
namespace Go.Proofs.Ytkpdcacfokcpnaa.Q
open Go.RowKit Go.Proofs.YtkpdcacfokcpnaaW.PrintWords Go.Proofs.YtkpdcacfokcpnaaW.PrintLast Go.Proofs.YtkpdcacfokcpnaaW.PrintMore
open Go.Proofs.Ytkpdcacfokcpnaa
set_option linter.unusedVariables false
set_option linter.unusedSimpArgs false

theorem move_is (c : Cfg) (k : Nat) (hk : 5 ≤ k) : conf_Move.f k c.blocks c.bytes c.frames c.fan c.buf c.leaf c.key c.val = some (if c.sized then c.move else 0) := by
  unfold conf_Move.f
  rw [sized_is c k hk]
  simp only [Option.bind_some]
  by_cases h : c.sized
  · rw [if_pos (by simpa using h), if_pos h]
    have h' := h
    unfold Cfg.sized at h'
    rw [w64 (x := 2 * c.fan) (by omega) (by omega), if_neg (by omega), w64 (x := c.buf + 2 * c.fan) (by omega) (by omega), w64 (x := c.buf + 2 * c.fan - 1) (by omega) (by omega), Int.tdiv_eq_ediv_of_nonneg (by omega)]
    have h1 : 0 ≤ (c.buf + 2 * c.fan - 1) / (2 * c.fan) := Int.ediv_nonneg (by omega) (by omega)
    have h2 : (c.buf + 2 * c.fan - 1) / (2 * c.fan) ≤ c.buf + 2 * c.fan - 1 := Int.ediv_le_self _ (by omega)
    rw [w64 (by omega) (by omega)]
    rfl
  · rw [if_neg (by simpa using h), if_neg h]

theorem Cfg.move_bd {c : Cfg} (h : c.sized) : 1 ≤ c.move ∧ c.move ≤ 1000 ∧ c.buf ≤ c.move * 2 * c.fan ∧ (c.move - 1) * 2 * c.fan < c.buf := by
  have h' := h
  unfold Cfg.sized at h'
  unfold Cfg.move
  have hp : 0 < 2 * c.fan := by omega
  have e := Int.mul_ediv_add_emod (c.buf + 2 * c.fan - 1) (2 * c.fan)
  have m0 := Int.emod_nonneg (c.buf + 2 * c.fan - 1) (show 2 * c.fan ≠ 0 by omega)
  have m1 := Int.emod_lt_of_pos (c.buf + 2 * c.fan - 1) hp
  have h1 : 1 ≤ (c.buf + 2 * c.fan - 1) / (2 * c.fan) := Int.le_ediv_of_mul_le hp (by omega)
  have h2 : (c.buf + 2 * c.fan - 1) / (2 * c.fan) ≤ c.buf + 2 * c.fan - 1 := Int.ediv_le_self _ (by omega)
  generalize (c.buf + 2 * c.fan - 1) / (2 * c.fan) = q at *
  have e1 : q * 2 * c.fan = 2 * c.fan * q := by rw [Int.mul_assoc, Int.mul_comm]
  have e2 : (q - 1) * 2 * c.fan = 2 * c.fan * q - 2 * c.fan := by rw [Int.mul_assoc, Int.sub_mul, Int.mul_comm q, Int.one_mul]
  rw [e1, e2]
  refine ⟨h1, by omega, by omega, by omega⟩

def u64ok (x : Int) : Prop := 0 ≤ x ∧ x < 18446744073709551616
theorem u64w {x : Int} (h0 : 0 ≤ x) (h1 : x < 18446744073709551616) : IntKind.u64.wrap x = x := by
  simp [IntKind.wrap, IntKind.signed, IntKind.bits]; omega

/-- The bound of so many changes. -/
def bnd (c : Cfg) (n e h : Int) : Int := if c.right ∧ 0 ≤ n ∧ 0 ≤ e ∧ 0 ≤ h ∧ n ≤ 1048576 ∧ e ≤ 1048576 ∧ h ≤ 1048576 then 32 * ((n * h + c.move - 1) / c.move + e + 1) else 0
theorem up_bd {m x : Int} (hm : 1 ≤ m) (h0 : 0 ≤ x) (h1 : x ≤ 1099511627776) (hm2 : m ≤ 1000) : 0 ≤ (x + m - 1) / m ∧ (x + m - 1) / m ≤ 1099511628776 := by
  refine ⟨Int.ediv_nonneg (by omega) (by omega), ?_⟩
  have := Int.ediv_le_self (b := m) (show 0 ≤ x + m - 1 by omega)
  omega
theorem prod_bd {n h : Int} (h1 : 0 ≤ n) (h2 : 0 ≤ h) (h3 : n ≤ 1048576) (h4 : h ≤ 1048576) : 0 ≤ n * h ∧ n * h ≤ 1099511627776 := by
  have := mul_bd h1 h3 h2 h4
  omega
theorem bound_is (c : Cfg) (n e h : Int) (k : Nat) (hk : 5 ≤ k) : meter_Bound.f k c.blocks c.bytes c.frames c.fan c.buf c.leaf c.key c.val n e h = some (bnd c n e h) := by
  unfold meter_Bound.f bnd
  rw [check_is c k hk, move_is c k hk]
  simp only [Option.bind_some]
  by_cases hr : c.right
  · rw [if_pos hr, if_pos rfl]
    by_cases hn : n < 0
    · rw [if_pos hn, if_neg (by omega)]
    · rw [if_neg hn]
      by_cases he : e < 0
      · rw [if_pos he, if_neg (by omega)]
      · rw [if_neg he]
        by_cases hh : h < 0
        · rw [if_pos hh, if_neg (by omega)]
        · rw [if_neg hh]
          by_cases hm : mx (mx n e) h > 1048576
          · rw [if_pos hm, if_neg (by intro h'; unfold mx at hm; split at hm <;> (try split at hm) <;> omega)]
          · have hm' : n ≤ 1048576 ∧ e ≤ 1048576 ∧ h ≤ 1048576 := by
              unfold mx at hm
              refine ⟨?_, ?_, ?_⟩ <;> (split at hm <;> (try split at hm) <;> omega)
            obtain ⟨b1, b2, _⟩ := Cfg.move_bd hr.1
            obtain ⟨p1, p2⟩ := prod_bd (show 0 ≤ n by omega) (show 0 ≤ h by omega) hm'.1 hm'.2.2
            obtain ⟨u1, u2⟩ := up_bd b1 p1 p2 b2
            rw [if_neg hm, if_pos (show c.right ∧ 0 ≤ n ∧ 0 ≤ e ∧ 0 ≤ h ∧ n ≤ 1048576 ∧ e ≤ 1048576 ∧ h ≤ 1048576 from ⟨hr, by omega, by omega, by omega, hm'⟩), if_pos hr.1, u64w (x := c.move) (by omega) (by omega), if_neg (by omega),
              u64w (x := n) (by omega) (by omega), u64w (x := h) (by omega) (by omega), u64w (x := n * h) (by omega) (by omega), u64w (x := n * h + c.move) (by omega) (by omega), u64w (x := n * h + c.move - 1) (by omega) (by omega), Int.tdiv_eq_ediv_of_nonneg (by omega),
              u64w (x := (n * h + c.move - 1) / c.move) (by omega) (by omega), u64w (x := e) (by omega) (by omega), u64w (x := (n * h + c.move - 1) / c.move + e) (by omega) (by omega), u64w (x := (n * h + c.move - 1) / c.move + e + 1) (by omega) (by omega), u64w (by omega) (by omega)]
  · rw [if_neg hr, if_neg (by decide), if_neg (fun h => hr h.1)]
theorem bound_calls (c : Cfg) (n e h : Int) (w : World) : Calls Try.prog 7 #[c.v, .int .i64 n, .int .i64 e, .int .i64 h] w fun en w' => en = .returned (.int .u64 (bnd c n e h)) ∧ Below w.heap.size w w' :=
  meter_Bound.calls 5 _ _ _ _ _ _ _ _ _ _ _ _ w (bound_is c n e h 5 (by omega))

theorem rmove_l0 (c : Cfg) (h : c.sized) : ∀ (d : Nat) (x : Int) (k : Nat), 0 ≤ x → x + d = c.move → d < k → sluicegateref09_Move.l0 k x c.blocks c.bytes c.frames c.fan c.buf c.leaf c.key c.val = some c.move := by
  have h' := h
  unfold Cfg.sized at h'
  obtain ⟨b1, b2, b3, b4⟩ := Cfg.move_bd h
  intro d
  induction d with
  | zero =>
    intro x k hx hd hk
    obtain ⟨k, rfl⟩ : ∃ m, k = m + 1 := ⟨k - 1, by omega⟩
    have hxm : x = c.move := by omega
    subst hxm
    simp only [sluicegateref09_Move.l0]
    have hb := mul_bd (a := c.move * 2) (b := c.fan) (A := 2000) (B := 64) (by omega) (by omega) (by omega) (by omega)
    rw [w64 (x := c.move * 2) (by omega) (by omega), w64 (by omega) (by omega), if_neg (by omega)]
  | succ d ih =>
    intro x k hx hd hk
    obtain ⟨k, rfl⟩ : ∃ m, k = m + 1 := ⟨k - 1, by omega⟩
    simp only [sluicegateref09_Move.l0]
    have hle : x ≤ c.move - 1 := by omega
    have hb := mul_bd (a := x * 2) (b := c.fan) (A := 2000) (B := 64) (by omega) (by omega) (by omega) (by omega)
    have hlt : x * 2 * c.fan ≤ (c.move - 1) * 2 * c.fan := Int.mul_le_mul_of_nonneg_right (by omega) (by omega)
    rw [w64 (x := x * 2) (by omega) (by omega), w64 (x := x * 2 * c.fan) (by omega) (by omega), if_pos (by omega), w64 (x := x + 1) (by omega) (by omega)]
    exact ih (x + 1) k (by omega) (by omega) (by omega)
theorem rmove_is (c : Cfg) (h : c.sized) (k : Nat) (hk : 1100 ≤ k) : sluicegateref09_Move.f k c.blocks c.bytes c.frames c.fan c.buf c.leaf c.key c.val = some c.move := by
  obtain ⟨b1, b2, b3, b4⟩ := Cfg.move_bd h
  unfold sluicegateref09_Move.f
  rw [rsized_is c k (by omega)]
  simp only [Option.bind_some]
  rw [if_pos (by simpa using h)]
  exact rmove_l0 c h c.move.toNat 0 k (by omega) (by omega) (by omega)
theorem ceil_is {x m : Int} (hm : 1 ≤ m) (h0 : 0 ≤ x) : (x + m - 1) / m = if x % m > 0 then x / m + 1 else x / m := by
  have e := Int.mul_ediv_add_emod x m
  have m0 := Int.emod_nonneg x (show m ≠ 0 by omega)
  have m1 := Int.emod_lt_of_pos x (show 0 < m by omega)
  by_cases h : x % m > 0
  · rw [if_pos h]
    have : x + m - 1 = (x % m - 1) + m * (x / m + 1) := by rw [Int.mul_add]; omega
    rw [this, Int.add_mul_ediv_left _ _ (by omega), Int.ediv_eq_zero_of_lt (by omega) (by omega)]
    omega
  · rw [if_neg h]
    have : x + m - 1 = (m - 1) + m * (x / m) := by omega
    rw [this, Int.add_mul_ediv_left _ _ (by omega), Int.ediv_eq_zero_of_lt (by omega) (by omega)]
    omega
theorem rbound_is (c : Cfg) (hr : c.right) (n e h : Int) (hn : 0 ≤ n ∧ n ≤ 1048576) (he : 0 ≤ e ∧ e ≤ 1048576) (hh : 0 ≤ h ∧ h ≤ 1048576) (k : Nat) (hk : 1100 ≤ k) : sluicegateref29_Bound.f k c.blocks c.bytes c.frames c.fan c.buf c.leaf c.key c.val n e h = some (bnd c n e h) := by
  obtain ⟨b1, b2, _⟩ := Cfg.move_bd hr.1
  obtain ⟨p1, p2⟩ := prod_bd hn.1 hh.1 hn.2 hh.2
  obtain ⟨u1, u2⟩ := up_bd b1 p1 p2 b2
  have hbnd : bnd c n e h = 32 * ((n * h + c.move - 1) / c.move + e + 1) := by unfold bnd; exact if_pos ⟨hr, hn.1, he.1, hh.1, hn.2, he.2, hh.2⟩
  rw [hbnd]
  unfold sluicegateref29_Bound.f
  rw [rmove_is c hr.1 k hk]
  simp only [Option.bind_some]
  have hc := ceil_is b1 p1
  have q0 : 0 ≤ n * h / c.move := Int.ediv_nonneg p1 (by omega)
  have q1 : n * h / c.move ≤ n * h := Int.ediv_le_self _ p1
  rw [if_neg (by omega), w64 (x := n * h) (by omega) (by omega), Int.tmod_eq_emod_of_nonneg p1, Int.tdiv_eq_ediv_of_nonneg p1, w64 (x := n * h / c.move) (by omega) (by omega), hc]
  by_cases hm : n * h % c.move > 0
  · rw [if_pos hm, if_pos hm, w64 (x := n * h / c.move + 1) (by omega) (by omega), w64 (x := n * h / c.move + 1 + e) (by omega) (by omega), w64 (x := n * h / c.move + 1 + e + 1) (by omega) (by omega), w64 (by omega) (by omega), u64w (by omega) (by omega)]
  · rw [if_neg hm, if_neg hm, w64 (x := n * h / c.move + e) (by omega) (by omega), w64 (x := n * h / c.move + e + 1) (by omega) (by omega), w64 (by omega) (by omega), u64w (by omega) (by omega)]
theorem rbound_calls (c : Cfg) (hr : c.right) (n e h : Int) (hn : 0 ≤ n ∧ n ≤ 1048576) (he : 0 ≤ e ∧ e ≤ 1048576) (hh : 0 ≤ h ∧ h ≤ 1048576) (w : World) : Calls Try.prog 10 #[c.v, .int .i64 n, .int .i64 e, .int .i64 h] w fun en w' => en = .returned (.int .u64 (bnd c n e h)) ∧ Below w.heap.size w w' :=
  sluicegateref29_Bound.calls 1100 _ _ _ _ _ _ _ _ _ _ _ _ w (rbound_is c hr n e h hn he hh 1100 (by omega))
end Go.Proofs.Ytkpdcacfokcpnaa.Q
