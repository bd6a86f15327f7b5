/- head.Encode: what its call comes to. -/
import Derived.Test.YtlnndkhnabooeaaHeadNums
import Derived.Deep.Cut
import Derived.Deep.CutRange
import Derived.Deep.CutBlock
import Derived.Lib.SlBytesConst
namespace Go.Proofs.Ytlnndkhnabooeaa.Head
open Go.RowKit Go.Proofs.YtlnndkhnabooeaaW.PrintWords Go.Proofs.YtlnndkhnabooeaaW.PrintLast Go.Proofs.YtlnndkhnabooeaaW.PrintMore
open Go.Proofs.Ytlnndkhnabooeaa Go.Proofs.Ytlnndkhnabooeaa.Vals Go.Proofs.Ytlnndkhnabooeaa.Word Go.Proofs.Ytlnndkhnabooeaa.Q Go.Proofs.Ytlnndkhnabooeaa.Math
set_option linter.unusedVariables false
set_option linter.unusedSimpArgs false

def Hd.v (x : Hd) : Value := .agg #[.int .i64 x.c.blocks, .int .i64 x.c.bytes, .int .i64 x.c.frames, .int .i64 x.c.fan, .int .i64 x.c.buf, .int .i64 x.c.leaf, .int .i64 x.c.key, .int .i64 x.c.val, .int .u32 x.root, .int .i64 x.h]
def Hd.cs (x : Hd) : Array Value := #[.int .i64 x.c.blocks, .int .i64 x.c.bytes, .int .i64 x.c.frames, .int .i64 x.c.fan, .int .i64 x.c.buf, .int .i64 x.c.leaf, .int .i64 x.c.key, .int .i64 x.c.val, .int .u32 x.root, .int .i64 x.h]
structure HdAt (w : World) (S : Nat) (t : TypeId) (x : Hd) : Prop where
  blk : w.heap[S]? = some (.cells x.cs t (0, 0))
theorem HdAt.below {w w' : World} {S : Nat} {t : TypeId} {x : Hd} (h : HdAt w S t x) (hb : Below w.heap.size w w') : HdAt w' S t x := ⟨blk_below h.blk hb⟩
theorem HdAt.cells {w : World} {S : Nat} {t : TypeId} {x : Hd} (h : HdAt w S t x) : w.cell? ⟨S, 0, none⟩ = some (.int .i64 x.c.blocks) ∧ w.cell? ⟨S, 1, none⟩ = some (.int .i64 x.c.bytes) ∧ w.cell? ⟨S, 2, none⟩ = some (.int .i64 x.c.frames) ∧ w.cell? ⟨S, 3, none⟩ = some (.int .i64 x.c.fan) ∧ w.cell? ⟨S, 4, none⟩ = some (.int .i64 x.c.buf) ∧ w.cell? ⟨S, 5, none⟩ = some (.int .i64 x.c.leaf) ∧ w.cell? ⟨S, 6, none⟩ = some (.int .i64 x.c.key) ∧ w.cell? ⟨S, 7, none⟩ = some (.int .i64 x.c.val) ∧ w.cell? ⟨S, 8, none⟩ = some (.int .u32 x.root) ∧ w.cell? ⟨S, 9, none⟩ = some (.int .i64 x.h) :=
  ⟨(blk_cell h.blk 0).trans rfl, (blk_cell h.blk 1).trans rfl, (blk_cell h.blk 2).trans rfl, (blk_cell h.blk 3).trans rfl, (blk_cell h.blk 4).trans rfl, (blk_cell h.blk 5).trans rfl, (blk_cell h.blk 6).trans rfl, (blk_cell h.blk 7).trans rfl, (blk_cell h.blk 8).trans rfl, (blk_cell h.blk 9).trans rfl⟩

/-- The values that a head may have as Go has it. -/
def Hd.typed (x : Hd) : Prop := 0 ≤ x.root ∧ x.root < 4294967296
theorem hright_is (x : Hd) (hx : x.typed) (k : Nat) (hk : 5 ≤ k) : head_Right.f k x.c.blocks x.c.bytes x.c.frames x.c.fan x.c.buf x.c.leaf x.c.key x.c.val x.root x.h = some (decide x.right) := by
  unfold head_Right.f
  rw [check_is x.c k hk]
  simp only [Option.bind_some]
  unfold Hd.typed at hx
  rw [w64 (x := x.root) (by omega) (by omega)]
  have hd : ∀ {p : Prop} [Decidable p] {b : Bool}, (p ↔ b = true) → some b = some (decide p) := fun {p} _ {b} h => by
    congr 1
    cases b
    · exact (decide_eq_false (fun hp => by simpa using h.1 hp)).symm
    · exact (decide_eq_true (h.2 rfl)).symm
  by_cases h1 : x.c.right
  · rw [if_pos h1, if_pos rfl]
    by_cases h2 : x.root ≥ 1
    · rw [if_pos h2]
      by_cases h3 : x.root < x.c.blocks
      · rw [if_pos h3]
        by_cases h4 : x.h ≥ 1
        · rw [if_pos h4]
          exact hd (by unfold Hd.right; simp only [decide_eq_true_eq]; exact ⟨fun h => h.2.2.2.2, fun h => ⟨h1, h2, h3, h4, h⟩⟩)
        · rw [if_neg h4]
          exact hd (by unfold Hd.right; exact ⟨fun h => absurd h.2.2.2.1 h4, fun h => by cases h⟩)
      · rw [if_neg h3]
        exact hd (by unfold Hd.right; exact ⟨fun h => absurd h.2.2.1 h3, fun h => by cases h⟩)
    · rw [if_neg h2]
      exact hd (by unfold Hd.right; exact ⟨fun h => absurd h.2.1 h2, fun h => by cases h⟩)
  · rw [if_neg h1, if_neg (by decide)]
    exact hd (by unfold Hd.right; exact ⟨fun h => absurd h.1 h1, fun h => by cases h⟩)
theorem hright_calls (x : Hd) (hx : x.typed) (w : World) : Calls Try.prog 9 #[x.v] w fun e w' => e = .returned (.bool (decide x.right)) ∧ Below w.heap.size w w' :=
  head_Right.calls 5 _ _ _ _ _ _ _ _ _ _ _ w (hright_is x hx 5 (by omega))


/-- The eight letters of a head's name. -/
theorem name_lit {w : World} {t : TypeId} {fr : Nat × Nat} : Bys nameB (.slice (some ⟨w.heap.size, 0, none⟩) 8 8) (w.alloc (.cells #[.int .u8 83, .int .u8 76, .int .u8 85, .int .u8 73, .int .u8 67, .int .u8 69, .int .u8 48, .int .u8 49] t fr)) := by
  refine ⟨_, 8, rfl, Nat.le_refl _, ?_⟩
  unfold nameB
  exact C_row (d := Kd.int .u8) (xs := [83, 76, 85, 73, 67, 69, 48, 49]) rfl (blk_new _ _) (by simp) (by simp) (fun j p u hj hu => by
    match j with
    | 0 => simp at hj hu; subst hj; subst hu; rfl
    | 1 => simp at hj hu; subst hj; subst hu; rfl
    | 2 => simp at hj hu; subst hj; subst hu; rfl
    | 3 => simp at hj hu; subst hj; subst hu; rfl
    | 4 => simp at hj hu; subst hj; subst hu; rfl
    | 5 => simp at hj hu; subst hj; subst hu; rfl
    | 6 => simp at hj hu; subst hj; subst hu; rfl
    | 7 => simp at hj hu; subst hj; subst hu; rfl
    | j + 8 => simp at hj)

def bad : Value := .tuple #[.slice none 0 0, .int .i64 2]
theorem enc_bad (x : Hd) (hx : x.typed) (hr : ¬ x.right) (w : World) : Calls Try.prog 6 #[x.v] w fun e w' => e = .returned bad ∧ Below w.heap.size w w' := by
  have HZ := Aside0.mk (show HdAt (w.alloc (.cells x.cs 26)) w.heap.size 26 x from ⟨blk_new w _⟩)
  have HB := Aside0.mk (below_alloc (Below.refl w.heap.size w) (.cells x.cs 26))
  have hrr := fun w => hright_calls x hx w
  rw [decide_eq_false hr] at hrr
  have HRR := Aside0.mk hrr
  clear hrr hr
  unfold Hd.v at HRR ⊢
  unfold Hd.cs at HZ HB
  go_enter Try.func6, Try.ntmps6
  go_wp2_with fail
  refine (HRR.out _).mono ?_
  rintro en w1 ⟨rfl, hb⟩
  have HB1 := Aside0.mk (below_step HB.out hb)
  clear hb
  go_wp2_with fail
  go_ret2
  exact ⟨by simp [bad], HB1.out⟩

theorem reads_row1 {W : World} {g : Nat} {C : Array Value} {t : TypeId} {fr : Nat × Nat} {A : Option Addr} {n c : Nat} {l : List Int} (hb : W.heap[g]? = some (.cells C t fr)) (hC : C[0]? = some (.slice A n c)) (hn : l.length = n) (hc : n ≤ c) (hl : Kd.C (Kd.int .u8) W A n l) :
    Kd.C (Kd.slice 5 (Kd.int .u8)) W (some ⟨g, 0, none⟩) 1 [l] := by
  subst hn
  refine ⟨rfl, by omega, fun _ => ⟨⟨g, 0, none⟩, rfl, fun j p hj => ?_⟩⟩
  match j, hj with
  | 0, hj =>
    simp at hj
    subst hj
    refine ⟨[.slice A l.length c], rfl, ⟨A, c, rfl, hc, hl⟩, fun i u hu => ?_⟩
    match i, hu with
    | 0, hu =>
      simp at hu
      subst hu
      simp [Addr.add, World.cell?, hb, hC]
    | i + 1, hu => simp at hu
  | j + 1, hj => simp at hj

set_option maxHeartbeats 400000 in
theorem ptrs_at {w : World} {S H : Nat} (h : w.heap[S]? = some (.cells (ptrs H) 45 (0, 0))) {i : Nat} (hi : i < 8) : w.cell? ⟨S, i, none⟩ = some (.pointer (some ⟨H, i, none⟩)) := by
  rw [blk_cell h i]
  match i, hi with
  | 0, _ | 1, _ | 2, _ | 3, _ | 4, _ | 5, _ | 6, _ | 7, _ => rfl
theorem nums_at {w : World} {H : Nat} {t : TypeId} {x : Hd} (h : HdAt w H t x) {i : Nat} (hi : i < 8) : w.cell? ⟨H, i, none⟩ = some (.int .i64 (x.nums[i]'(by simp [Hd.nums]; omega))) := by
  rw [blk_cell h.blk i]
  match i, hi with
  | 0, _ | 1, _ | 2, _ | 3, _ | 4, _ | 5, _ | 6, _ | 7, _ => rfl
theorem bes_snoc (x : Hd) {i : Nat} (hi : i < x.nums.length) : nameB ++ bes (x.nums.take (i + 1)) = (nameB ++ bes (x.nums.take i)) ++ be 4 x.nums[i] := by
  rw [List.take_succ_eq_append_getElem hi, bes_app, List.append_assoc]
  simp [bes]
theorem front_le (x : Hd) (i : Nat) : (nameB ++ bes (x.nums.take i)).length ≤ 48 := by
  rw [List.length_append, bes_len, List.length_take]
  simp [nameB, Hd.nums]
  omega
def EncPost (w : World) (x : Hd) (e : Ending) (w' : World) : Prop := ∃ v, e = .returned (.tuple #[v, .int .i64 0]) ∧ Kd.R (Kd.int .u8) 5 w' w.heap.size (fun _ => True) v x.blk ∧ Below w.heap.size w w'
theorem u64w {x : Int} (h0 : 0 ≤ x) (h1 : x < 18446744073709551616) : IntKind.u64.wrap x = x := by
  simp [IntKind.wrap, IntKind.signed, IntKind.bits]; omega

set_option maxHeartbeats 4000000 in
theorem enc_ok (x : Hd) (hx : x.typed) (hr : x.right) (w : World) : Calls Try.prog 6 #[x.v] w (EncPost w x) := by
  have HZ := Aside0.mk (show HdAt (w.alloc (.cells x.cs 26)) w.heap.size 26 x from ⟨blk_new w _⟩)
  have HB := Aside0.mk (below_alloc (Below.refl w.heap.size w) (.cells x.cs 26))
  have hrr := fun w => hright_calls x hx w
  rw [decide_eq_true hr] at hrr
  have HRR := Aside0.mk hrr
  have HNB := Aside0.mk (nums_bd hr)
  clear hrr
  unfold Hd.v at HRR ⊢
  unfold Hd.cs at HZ HB
  go_enter Try.func6, Try.ntmps6
  go_wp2_with fail
  refine (HRR.out _).mono ?_
  rintro en w1 ⟨rfl, hb⟩
  have HZ1 := Aside0.mk (HZ.out.below hb)
  have HB1 := Aside0.mk (below_step HB.out hb)
  clear hb HZ HB HRR
  have hcv := fun (w : World) (C : Array Value) (n c : Nat) => Lib.run_convert_bytes_const (P := Try.prog) w 27 5 C n c Try.underlying27 Try.underlying5
  go_wp2_with fail
  clear hcv
  have HN2 := Aside0.mk (name_lit (w := w1) (t := 5) (fr := (8, 9)))
  have HZ2 := Aside0.mk (HZ1.out.below (below_alloc (Below.refl _ _) (.cells #[.int .u8 83, .int .u8 76, .int .u8 85, .int .u8 73, .int .u8 67, .int .u8 69, .int .u8 48, .int .u8 49] 5 (8, 9))))
  have HB2 := Aside0.mk (below_alloc HB1.out (.cells #[.int .u8 83, .int .u8 76, .int .u8 85, .int .u8 73, .int .u8 67, .int .u8 69, .int .u8 48, .int .u8 49] 5 (8, 9)))
  clear HZ1 HB1
  generalize w1.alloc (.cells #[.int .u8 83, .int .u8 76, .int .u8 85, .int .u8 73, .int .u8 67, .int .u8 69, .int .u8 48, .int .u8 49] 5 (8, 9)) = w2 at HN2 HZ2 HB2 ⊢
  generalize Value.slice (some ⟨w1.heap.size, 0, none⟩) 8 8 = v0 at HN2 ⊢
  obtain ⟨H, hH⟩ : ∃ H, w.heap.size = H := ⟨_, rfl⟩
  have HH := Aside0.mk hH
  rw [hH] at HZ2 ⊢
  clear hH
  refine (numbers_calls H _).mono ?_
  rintro en w3 ⟨rfl, hb⟩
  have HZ3 := Aside0.mk (HZ2.out.below hb)
  have HN3 := Aside0.mk (HN2.out.mono hb)
  have HB3 := Aside0.mk (below_step HB2.out hb)
  clear hb HZ2 HN2 HB2
  unfold ptrs
  go_wp2_with fail
  have HPT := Aside0.mk (blk_new w3 (.cells (ptrs H) 45))
  have HZ4 := Aside0.mk (HZ3.out.below (below_alloc (Below.refl _ _) (.cells (ptrs H) 45)))
  have HN4 := Aside0.mk (HN3.out.mono (below_alloc (Below.refl _ _) (.cells (ptrs H) 45)))
  have HB4 := Aside0.mk (below_alloc HB3.out (.cells (ptrs H) 45))
  unfold ptrs at HPT HZ4 HN4 HB4
  clear HZ3 HN3 HB3
  generalize w3.alloc (.cells #[.pointer (some ⟨H, 0, none⟩), .pointer (some ⟨H, 1, none⟩), .pointer (some ⟨H, 2, none⟩), .pointer (some ⟨H, 3, none⟩), .pointer (some ⟨H, 4, none⟩), .pointer (some ⟨H, 5, none⟩), .pointer (some ⟨H, 6, none⟩), .pointer (some ⟨H, 7, none⟩), .pointer (some ⟨H, 9, none⟩)] 45) = w4 at HPT HZ4 HN4 HB4 ⊢
  generalize w3.heap.size = S at HPT ⊢
  go_loopg [4, 16] 9 (fun kq v4 v16 wx => ∃ (i : Nat), v16 = .int .i64 (i : Int) ∧ Aside0 (kq = 9 - i ∧ i ≤ 8) ∧ Aside0 (HdAt wx H 26 x) ∧ Aside0 (wx.heap[S]? = some (.cells (ptrs H) 45 (0, 0))) ∧ Aside0 (Bys (nameB ++ bes (x.nums.take i)) v4 wx) ∧ Aside0 (Below w.heap.size w wx))
  case atStart => exact ⟨0, rfl, ⟨rfl, by omega⟩, HZ4, HPT, ⟨by simpa [bes] using HN4.out⟩, HB4⟩
  case round =>
    clear HZ4 HPT HN4 HB4
    obtain ⟨i, rfl, HI, HZ, HP, HN, HB⟩ := hrel
    by_cases hi : i < 8
    · have g1 : decide ((i : Int) < 8) = true := decide_eq_true (by omega)
      have kp := ptrs_at HP.out hi
      have kn := nums_at HZ.out hi
      have hil : i < x.nums.length := by simp [Hd.nums]; omega
      have hbd := HNB.out _ (List.getElem_mem hil)
      have HSN := Aside0.mk (bes_snoc x hil)
      generalize x.nums[i] = v at kn hbd HSN
      have HBD := Aside0.mk hbd
      clear hbd
      go_wp2_with fail
      clear kp kn
      rw [show IntKind.u64.wrap v = v from u64w HBD.out.1 (by have := HBD.out.2; omega)]
      refine (put_wide (n := 4) HN.out (by have := front_le x i; omega) (by decide) HBD.out.1 (by have := HBD.out.2; omega)).mono ?_
      rintro en w5 ⟨v5, rfl, hR, hb⟩
      have HN5 := Aside0.mk (show Bys (nameB ++ bes (x.nums.take (i + 1))) v5 w5 by rw [HSN.out]; exact Kd.R_reads hR)
      have HZ5 := Aside0.mk (HZ.out.below hb)
      have HP5 := Aside0.mk (blk_below HP.out hb)
      have HB5 := Aside0.mk (below_step HB.out hb)
      clear hR hb
      go_wp2_with fail
      go_roundg (8 - i)
      case measure => have := HI.out; omega
      case rel => exact ⟨i + 1, by simp, ⟨by omega, by omega⟩, HZ5, HP5, HN5, HB5⟩
    · have g1 : decide ((i : Int) < 8) = false := decide_eq_false (by omega)
      obtain rfl : i = 8 := by have := HI.out; omega
      obtain ⟨k0, k1, k2, k3, k4, k5, k6, k7, k8, k9⟩ := HZ.out.cells
      go_wp2_with fail
      clear k0 k1 k2 k3 k4 k5 k6 k7 k8 k9
      have hb8 := HNB.out x.root (by simp [Hd.nums])
      rw [show IntKind.u64.wrap x.root = x.root from u64w hb8.1 (by omega)]
      refine (put_wide (n := 4) HN.out (by have := front_le x 8; omega) (by decide) hb8.1 (by omega)).mono ?_
      rintro en w5 ⟨v5, rfl, hR, hb⟩
      have HN5 := Aside0.mk (show Bys (nameB ++ bes (x.nums.take 9)) v5 w5 by rw [bes_snoc x (i := 8) (by simp [Hd.nums])]; exact Kd.R_reads hR)
      have HZ5 := Aside0.mk (HZ.out.below hb)
      have HB5 := Aside0.mk (below_step HB.out hb)
      clear hR hb hb8 HN HZ HP HB
      obtain ⟨k0, k1, k2, k3, k4, k5, k6, k7, k8, k9⟩ := HZ5.out.cells
      go_wp2_with fail
      clear k0 k1 k2 k3 k4 k5 k6 k7 k8 k9
      have hb9 := HNB.out x.h (by simp [Hd.nums])
      rw [show IntKind.u64.wrap x.h = x.h from u64w hb9.1 (by omega)]
      refine (put_wide (n := 4) HN5.out (by have := front_le x 9; omega) (by decide) hb9.1 (by omega)).mono ?_
      rintro en w6 ⟨v6, rfl, hR, hb⟩
      have HR6 := Aside0.mk (show Kd.R (Kd.int .u8) 5 w6 w5.heap.size (fun _ => True) v6 x.front by unfold Hd.front; rw [show x.nums = x.nums.take (9 + 1) from rfl, bes_snoc x (i := 9) (by simp [Hd.nums])]; exact hR)
      have HB56 := Aside0.mk hb
      clear hR hb hb9 HN5
      go_wp2_with (first | (at_builtin; refine Kd.R_append_zeros (Kd.int .u8) (w0 := w5) w5.heap.size rfl (.tmp 37) (.const (.int .i64 12)) 27 3 5 (.int .u8 0) 1 rfl Try.underlying27 Try.underlying3 info_byte rfl (by decide) (by decide) v6 x.front 0 (kx := .i64) 12 (fun _ => True) rfl rfl ?aZ (fun _ _ => trivial) HR6.out (by decide) HB56.out HB56.out.size ?aL ?_; (case aZ => rfl); (case aL => rw [front_len]; decide); intro v7 w7 hR7 hB7 hg7 hat7; have HZ7 := Aside0.mk (HZ5.out.below hB7); have HB7 := Aside0.mk (below_step HB5.out hB7); obtain ⟨A7, c7, rfl, hc7, hC7⟩ := Kd.R_reads hR7; have HC7 := Aside0.mk (And.intro hc7 hC7); clear hR7 hB7 hg7 hat7 hc7 hC7 HR6 HB56 HZ5 HB5))
      have e60 : x.front.length + 12 = 60 := by rw [front_len]
      rw [e60]
      have HP7 := Aside0.mk (show 60 ≤ c7 ∧ Kd.C (Kd.int .u8) w7 A7 60 x.pre from by
        have h1 := HC7.out
        simp only [List.length_append, List.length_replicate] at h1
        exact ⟨by have := h1.1; rw [front_len] at this; exact this, by have := h1.2; rw [front_len] at this; exact this⟩)
      clear e60 HC7
      have hr0 := reads_row1 (A := A7) (n := 60) (c := c7) (l := x.pre) (blk_new w7 (.cells #[.slice A7 60 c7] 27)) rfl (pre_len x) HP7.out.1 (Kd.C_below HP7.out.2 (below_alloc (Below.refl _ _) _))
      have HZ8 := Aside0.mk (HZ7.out.below (below_alloc (Below.refl _ _) (.cells #[.slice A7 60 c7] 27)))
      have HB8 := Aside0.mk (below_alloc HB7.out (.cells #[.slice A7 60 c7] 27))
      have HP8 := Aside0.mk (show Bys x.pre (.slice A7 60 c7) (w7.alloc (.cells #[.slice A7 60 c7] 27)) from ⟨A7, c7, by rw [pre_len], by rw [pre_len]; exact HP7.out.1, by rw [pre_len]; exact Kd.C_below HP7.out.2 (below_alloc (Below.refl _ _) _)⟩)
      clear HZ7 HB7 HP7
      generalize w7.alloc (.cells #[.slice A7 60 c7] 27) = w8 at hr0 HZ8 HB8 HP8 ⊢
      refine (check_Sum.calls 62 _ 1 [x.pre] (M 1 x.pre) w8 hr0 (by simp) (by have := sum_is [x.pre] (by simp) (fun c hc => by rw [List.mem_singleton.1 hc]; exact ⟨by_pre x, by rw [pre_len]; decide⟩) 62 (by simp [pre_len]); simpa using this)).mono ?_
      rintro en w9 ⟨rfl, hd⟩
      have hb : Below w8.heap.size w8 w9 := by obtain ⟨k, rfl⟩ := hd.out; exact pw_below_drewN (Below.refl _ _) k
      have HZ9 := Aside0.mk (HZ8.out.below hb)
      have HB9 := Aside0.mk (below_step HB8.out hb)
      have HP9 := Aside0.mk (HP8.out.mono hb)
      clear hb hd hr0 HZ8 HB8 HP8
      have hs := M_range 1 x.pre
      go_wp2_with fail
      refine (put_wide (n := 4) HP9.out (by rw [pre_len]; decide) (by decide) hs.1 (by omega)).mono ?_
      rintro en w10 ⟨v10, rfl, hR, hb⟩
      have HZ10 := Aside0.mk (HZ9.out.below hb)
      have HB910 := Aside0.mk hb
      obtain ⟨A10, c10, rfl, hc10, hC10⟩ := Kd.R_reads hR
      have e64 : (x.pre ++ be 4 (M 1 x.pre)).length = 64 := by rw [List.length_append, pre_len, be_length]
      rw [e64] at hR ⊢
      have HR10 := Aside0.mk hR
      have hbb : 64 ≤ x.c.bytes ∧ x.c.bytes ≤ 65536 := ⟨hr.1.2.2.2.2.2.2.1, hr.1.2.2.2.2.2.1⟩
      have HBB := Aside0.mk hbb
      clear hR hb hc10 hC10 hs HP9 HZ9 hbb hx hr
      obtain ⟨k0, k1, k2, k3, k4, k5, k6, k7, k8, k9⟩ := HZ10.out.cells
      go_wp2_with (first | (at_builtin; refine Kd.R_append_zeros (Kd.int .u8) (w0 := w9) w9.heap.size rfl (.tmp 45) (.tmp 51) 27 3 5 (.int .u8 0) 1 rfl Try.underlying27 Try.underlying3 info_byte rfl (by decide) (by decide) (.slice A10 64 c10) (x.pre ++ be 4 (M 1 x.pre)) 0 (kx := .i64) _ (fun _ => True) rfl rfl ?aZ (fun _ _ => trivial) HR10.out ?a0 HB910.out HB910.out.size ?aL ?_))
      case aZ => rfl
      case a0 => have := HBB.out; rw [w64 (by omega) (by omega)]; omega
      case aL => have := HBB.out; rw [List.length_append, pre_len, be_length, w64 (by omega) (by omega)]; omega
      intro v11 w11 hR hb hg hat
      have HR11 := Aside0.mk (show Kd.R (Kd.int .u8) 5 w11 w9.heap.size (fun _ => True) v11 x.blk by
        have := HBB.out
        rw [w64 (by omega) (by omega), ← List.append_assoc] at hR
        exact hR)
      have HB11 := Aside0.mk (below_step HB9.out hb)
      clear hR hb hg hat
      go_wp2_with fail
      go_ret2
      exact ⟨v11, rfl, Kd.R_lower HR11.out HB9.out.size, HB11.out⟩
end Go.Proofs.Ytlnndkhnabooeaa.Head
