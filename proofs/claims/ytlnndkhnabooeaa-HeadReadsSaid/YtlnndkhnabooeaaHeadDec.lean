/- head.Decode: what its call comes to. -/
import Derived.Test.YtlnndkhnabooeaaHeadEnc
import Derived.Test.YtlnndkhnabooeaaWAll
namespace Go.Proofs.Ytlnndkhnabooeaa.Head
open Go.RowKit Go.Proofs.YtlnndkhnabooeaaW.PrintWords Go.Proofs.YtlnndkhnabooeaaW.PrintLast Go.Proofs.YtlnndkhnabooeaaW.PrintMore
open Go.Proofs.Ytlnndkhnabooeaa Go.Proofs.Ytlnndkhnabooeaa.Vals Go.Proofs.Ytlnndkhnabooeaa.Word Go.Proofs.Ytlnndkhnabooeaa.Q Go.Proofs.Ytlnndkhnabooeaa.Math
set_option linter.unusedVariables false
set_option linter.unusedSimpArgs false

theorem take_snoc_eq {a b : List Int} {i : Nat} (ha : i < a.length) (hb : i < b.length) (h : a.take i = b.take i) (e : a[i] = b[i]) : a.take (i + 1) = b.take (i + 1) := by
  rw [List.take_succ_eq_append_getElem ha, List.take_succ_eq_append_getElem hb, h, e]
theorem equal_l0 (a b : List Int) (hl : a.length = b.length) (hm : a.length ≤ 140737488351232) : ∀ (d i k : Nat), i + d = a.length → d < k → a.take i = b.take i → slices_Equal_byte_byte.l0 k a b (a.length : Int) (i : Int) = some (decide (a = b)) := by
  intro d
  induction d with
  | zero =>
    intro i k hi hk ht
    obtain ⟨k, rfl⟩ : ∃ m, k = m + 1 := ⟨k - 1, by omega⟩
    simp only [slices_Equal_byte_byte.l0]
    rw [if_neg (by omega)]
    have hia : i = a.length := by omega
    subst hia
    rw [List.take_length, hl, List.take_length] at ht
    rw [decide_eq_true ht]
  | succ d ih =>
    intro i k hi hk ht
    obtain ⟨k, rfl⟩ : ∃ m, k = m + 1 := ⟨k - 1, by omega⟩
    simp only [slices_Equal_byte_byte.l0]
    have ha : i < a.length := by omega
    have hb : i < b.length := by omega
    rw [if_pos (by omega), if_pos (by omega), if_pos (by omega), if_pos (by omega), rd_lt ha, rd_lt hb]
    by_cases e : a[i] = b[i]
    · rw [if_pos e, show wrap64 ((i : Int) + 1) = ((i + 1 : Nat) : Int) by unfold wrap64; omega]
      exact ih (i + 1) k (by omega) (by omega) (take_snoc_eq ha hb ht e)
    · rw [if_neg e, decide_eq_false (fun h => e (by subst h; rfl))]
theorem equal_is (a b : List Int) (hm : a.length ≤ 140737488351232) : slices_Equal_byte_byte.f (a.length + 1) a b = some (decide (a = b)) := by
  unfold slices_Equal_byte_byte.f
  by_cases hl : a.length = b.length
  · rw [if_pos (by omega)]
    exact equal_l0 a b hl hm a.length 0 _ (by omega) (by omega) rfl
  · rw [if_neg (by omega), decide_eq_false (fun h => hl (by rw [h]))]
theorem equal_calls {w : World} {v u : Value} {a b : List Int} (ha : Bys a v w) (hb : Bys b u w) (hm : a.length ≤ 140737488351232) : Calls Try.prog 25 #[v, u] w fun e w' => e = .returned (.bool (decide (a = b))) ∧ Below w.heap.size w w' := by
  obtain ⟨A, c, rfl, hc, hC⟩ := ha
  obtain ⟨B, d, rfl, hd, hD⟩ := hb
  refine (slices_Equal_byte_byte.calls (a.length + 1) A c a B d b _ w hC hc hD hd (equal_is a b hm)).mono ?_
  rintro e w' ⟨rfl, hdr⟩
  obtain ⟨k, rfl⟩ := hdr.out
  exact ⟨rfl, pw_below_drewN (Below.refl _ _) k⟩

/-- Where a reader of b stands that was asked for the first j bytes. -/
def Pos (b : List Int) (j : Nat) (bs : List Int) (e : Int) : Prop := (e = 0 ∧ j ≤ b.length ∧ bs = b.drop j) ∨ (e ≠ 0 ∧ b.length < 48)
theorem Pos.step {b : List Int} {j : Nat} {bs : List Int} {e : Int} (h : Pos b j bs e) (n : Nat) (hn : j + n ≤ 48) : Pos b (j + n) (rawB bs e (n : Int)) (rawE bs e (n : Int)) ∧ (48 ≤ b.length → rawO bs e (n : Int) = (b.drop j).take n) := by
  rcases h with ⟨rfl, hj, rfl⟩ | ⟨he, hl⟩
  · unfold rawB rawE rawO
    have a1 : ¬ ((0 : Int) ≠ 0) := by simp
    have a2 : ¬ ((n : Int) < 0) := by omega
    simp only [if_neg a1, if_neg a2]
    by_cases hs : ((b.drop j).length : Int) < (n : Int)
    · simp only [if_pos hs]
      rw [List.length_drop] at hs
      exact ⟨Or.inr ⟨by decide, by omega⟩, fun h => by omega⟩
    · simp only [if_neg hs, Int.toNat_natCast]
      rw [List.length_drop] at hs
      exact ⟨Or.inl ⟨rfl, by omega, by rw [List.drop_drop]⟩, fun _ => by first | trivial | rfl⟩
  · unfold rawE
    rw [if_pos he]
    exact ⟨Or.inr ⟨he, hl⟩, fun h => by omega⟩
theorem Pos.start (b : List Int) : Pos b 0 b 0 := Or.inl ⟨rfl, by omega, by simp⟩
theorem num4_bd {l : List Int} (hl : Byte l) (h : l.length ≤ 4) : 0 ≤ num l ∧ num l < 4294967296 := by
  have h1 := num_lt l hl
  refine ⟨h1.1, Int.lt_of_lt_of_le h1.2 ?_⟩
  have : l.length = 0 ∨ l.length = 1 ∨ l.length = 2 ∨ l.length = 3 ∨ l.length = 4 := by omega
  rcases this with h | h | h | h | h <;> rw [h] <;> decide
theorem rawO_len4 (bs : List Int) (e : Int) : (rawO bs e ((4 : Nat) : Int)).length ≤ 4 := by
  rcases rawO_len bs e ((4 : Nat) : Int) with h | h <;> omega

/-- A head's cells while it is read. -/
def hcells (f : Nat → Int) : Array Value := #[.int .i64 (f 0), .int .i64 (f 1), .int .i64 (f 2), .int .i64 (f 3), .int .i64 (f 4), .int .i64 (f 5), .int .i64 (f 6), .int .i64 (f 7), .int .u32 (f 8), .int .i64 (f 9)]
def hset (f : Nat → Int) (i : Nat) (v : Int) : Nat → Int := fun k => if k = i then v else f k
theorem hcells_at {w : World} {H : Nat} {t : TypeId} {f : Nat → Int} (h : w.heap[H]? = some (.cells (hcells f) t (0, 0))) {i : Nat} (hi : i < 8) : w.cell? ⟨H, i, none⟩ = some (.int .i64 (f i)) := by
  rw [blk_cell h i]
  match i, hi with
  | 0, _ | 1, _ | 2, _ | 3, _ | 4, _ | 5, _ | 6, _ | 7, _ => rfl
theorem hcells_set (f : Nat → Int) (v : Int) {i : Nat} (hi : i < 8) : (hcells f).setIfInBounds i (.int .i64 v) = hcells (hset f i v) := by
  match i, hi with
  | 0, _ | 1, _ | 2, _ | 3, _ | 4, _ | 5, _ | 6, _ | 7, _ => simp [hcells, hset]
theorem ten_put {w : World} {S : Nat} {t : TypeId} {a0 a1 a2 a3 a4 a5 a6 a7 a8 a9 : Value} (h : w.heap[S]? = some (.cells #[a0, a1, a2, a3, a4, a5, a6, a7, a8, a9] t (0, 0))) (b0 b1 b2 b3 b4 b5 b6 b7 b8 b9 : Value) :
    (((((((((((w.setCell ⟨S, 0, none⟩ b0).setCell ⟨S, 1, none⟩ b1).setCell ⟨S, 2, none⟩ b2).setCell ⟨S, 3, none⟩ b3).setCell ⟨S, 4, none⟩ b4).setCell ⟨S, 5, none⟩ b5).setCell ⟨S, 6, none⟩ b6).setCell ⟨S, 7, none⟩ b7).setCell ⟨S, 8, none⟩ b8).setCell ⟨S, 9, none⟩ b9)).heap[S]? = some (.cells #[b0, b1, b2, b3, b4, b5, b6, b7, b8, b9] t (0, 0)) ∧ Keeps (fun k => k = S) w (((((((((((w.setCell ⟨S, 0, none⟩ b0).setCell ⟨S, 1, none⟩ b1).setCell ⟨S, 2, none⟩ b2).setCell ⟨S, 3, none⟩ b3).setCell ⟨S, 4, none⟩ b4).setCell ⟨S, 5, none⟩ b5).setCell ⟨S, 6, none⟩ b6).setCell ⟨S, 7, none⟩ b7).setCell ⟨S, 8, none⟩ b8).setCell ⟨S, 9, none⟩ b9)) := by
  have h1 := blk_put (cs' := #[b0, a1, a2, a3, a4, a5, a6, a7, a8, a9]) h 0 b0 (by simp)
  have h2 := blk_put (cs' := #[b0, b1, a2, a3, a4, a5, a6, a7, a8, a9]) h1 1 b1 (by simp)
  have h3 := blk_put (cs' := #[b0, b1, b2, a3, a4, a5, a6, a7, a8, a9]) h2 2 b2 (by simp)
  have h4 := blk_put (cs' := #[b0, b1, b2, b3, a4, a5, a6, a7, a8, a9]) h3 3 b3 (by simp)
  have h5 := blk_put (cs' := #[b0, b1, b2, b3, b4, a5, a6, a7, a8, a9]) h4 4 b4 (by simp)
  have h6 := blk_put (cs' := #[b0, b1, b2, b3, b4, b5, a6, a7, a8, a9]) h5 5 b5 (by simp)
  have h7 := blk_put (cs' := #[b0, b1, b2, b3, b4, b5, b6, a7, a8, a9]) h6 6 b6 (by simp)
  have h8 := blk_put (cs' := #[b0, b1, b2, b3, b4, b5, b6, b7, a8, a9]) h7 7 b7 (by simp)
  have h9 := blk_put (cs' := #[b0, b1, b2, b3, b4, b5, b6, b7, b8, a9]) h8 8 b8 (by simp)
  have h10 := blk_put (cs' := #[b0, b1, b2, b3, b4, b5, b6, b7, b8, b9]) h9 9 b9 (by simp)
  have k1 := (Keeps.refl (fun k => k = S) w).set (p := ⟨S, 0, none⟩) (Or.inl rfl) b0
  have k2 := k1.set (p := ⟨S, 1, none⟩) (Or.inl rfl) b1
  have k3 := k2.set (p := ⟨S, 2, none⟩) (Or.inl rfl) b2
  have k4 := k3.set (p := ⟨S, 3, none⟩) (Or.inl rfl) b3
  have k5 := k4.set (p := ⟨S, 4, none⟩) (Or.inl rfl) b4
  have k6 := k5.set (p := ⟨S, 5, none⟩) (Or.inl rfl) b5
  have k7 := k6.set (p := ⟨S, 6, none⟩) (Or.inl rfl) b6
  have k8 := k7.set (p := ⟨S, 7, none⟩) (Or.inl rfl) b7
  have k9 := k8.set (p := ⟨S, 8, none⟩) (Or.inl rfl) b8
  have k10 := k9.set (p := ⟨S, 9, none⟩) (Or.inl rfl) b9
  exact ⟨h10, k10⟩
theorem hcells_all {w : World} {H : Nat} {t : TypeId} {f : Nat → Int} (h : w.heap[H]? = some (.cells (hcells f) t (0, 0))) : w.cell? ⟨H, 0, none⟩ = some (.int .i64 (f 0)) ∧ w.cell? ⟨H, 1, none⟩ = some (.int .i64 (f 1)) ∧ w.cell? ⟨H, 2, none⟩ = some (.int .i64 (f 2)) ∧ w.cell? ⟨H, 3, none⟩ = some (.int .i64 (f 3)) ∧ w.cell? ⟨H, 4, none⟩ = some (.int .i64 (f 4)) ∧ w.cell? ⟨H, 5, none⟩ = some (.int .i64 (f 5)) ∧ w.cell? ⟨H, 6, none⟩ = some (.int .i64 (f 6)) ∧ w.cell? ⟨H, 7, none⟩ = some (.int .i64 (f 7)) ∧ w.cell? ⟨H, 8, none⟩ = some (.int .u32 (f 8)) ∧ w.cell? ⟨H, 9, none⟩ = some (.int .i64 (f 9)) :=
  ⟨(blk_cell h 0).trans rfl, (blk_cell h 1).trans rfl, (blk_cell h 2).trans rfl, (blk_cell h 3).trans rfl, (blk_cell h 4).trans rfl, (blk_cell h 5).trans rfl, (blk_cell h 6).trans rfl, (blk_cell h 7).trans rfl, (blk_cell h 8).trans rfl, (blk_cell h 9).trans rfl⟩
theorem hcells_nobyte {w : World} {H : Nat} {t : TypeId} {f : Nat → Int} (h : w.heap[H]? = some (.cells (hcells f) t (0, 0))) : NoByte w H :=
  ⟨_, _, _, h, fun i b => by
    match i with
    | 0 | 1 | 2 | 3 | 4 | 5 | 6 | 7 | 8 | 9 => simp [hcells]
    | i + 10 => simp [hcells]⟩

theorem hcells_set8 (f : Nat → Int) (v : Int) : (hcells f).setIfInBounds 8 (.int .u32 v) = hcells (hset f 8 v) := by simp [hcells, hset]
theorem hcells_set9 (f : Nat → Int) (v : Int) : (hcells f).setIfInBounds 9 (.int .i64 v) = hcells (hset f 9 v) := by simp [hcells, hset]
theorem hset_told {b : List Int} {f : Nat → Int} {i : Nat} {v : Int} (h : 48 ≤ b.length → ∀ k, k < i → f k = at4 b k) (hv : 48 ≤ b.length → v = at4 b i) : 48 ≤ b.length → ∀ k, k < i + 1 → hset f i v k = at4 b k := by
  intro hl k hk
  unfold hset
  by_cases e : k = i
  · rw [if_pos e, e, hv hl]
  · rw [if_neg e, h hl k (by omega)]
def noHd : Value := .agg #[.int .i64 0, .int .i64 0, .int .i64 0, .int .i64 0, .int .i64 0, .int .i64 0, .int .i64 0, .int .i64 0, .int .u32 0, .int .i64 0]
def decV (b : List Int) : Value := if isHd b then .tuple #[(hdOf b).v, .int .i64 0] else .tuple #[noHd, .int .i64 12]

set_option maxHeartbeats 4000000 in
set_option maxRecDepth 100000 in
theorem dec_calls {w : World} {v : Value} {b : List Int} (h : Bys b v w) (hby : Byte b) (hl : b.length ≤ 140737488351232) : Calls Try.prog 12 #[v] w fun e w' => e = .returned (decV b) ∧ Below w.heap.size w w' := by
  have HBY := Aside0.mk h
  have HBB := Aside0.mk hby
  clear h hby
  have W2 := Aside0.mk (two_blk w (.cells (hcells (fun _ => 0)) 26) (.cells (hcells (fun _ => 0)) 26))
  have HB := Aside0.mk (below2 w (.cells (hcells (fun _ => 0)) 26) (.cells (hcells (fun _ => 0)) 26))
  have HBY2 := Aside0.mk (HBY.out.mono HB.out)
  have HOP := Aside0.mk (open_calls HBY2.out hl)
  unfold hcells at W2 HB HBY2 HOP
  go_enter Try.func12, Try.ntmps12
  go_wp2_with fail
  refine HOP.out.mono ?_
  rintro en w3 ⟨g, rfl, hr, hb, hg⟩
  have HR := Aside0.mk hr
  have HR0 := Aside0.mk (blk_below W2.out.1 hb)
  have HH := Aside0.mk (blk_below W2.out.2 hb)
  have HBX := Aside0.mk (below_step HB.out hb)
  have HV := Aside0.mk (HBY2.out.mono hb)
  have hg2 : w.heap.size + 1 < g := by
    have h1 := blk_lt W2.out.2
    omega
  have HG := Aside0.mk hg2
  clear hr hb hg hg2 HBY2 HOP HB W2
  go_wp2_with fail
  refine (raw_calls HR.out ((8 : Nat) : Int)).mono ?_
  rintro en w4 ⟨v4, rfl, _, _, hr, hk⟩
  have HP4 := Aside0.mk ((Pos.start b).step 8 (by decide)).1
  have HY4 := Aside0.mk (HBB.out.rawB 0 ((8 : Nat) : Int))
  have HR4 := Aside0.mk hr
  have HZ4 := Aside0.mk (hk.blk HR0.out (by have := HG.out; omega))
  have HH4 := Aside0.mk (hk.blk HH.out (by have := HG.out; omega))
  have HB4 := Aside0.mk (Keeps.below_then HBX.out (Nat.le_refl _) hk (fun i hi => by have h1 : i = g := hi; have := HG.out; omega))
  clear hr hk HR HR0 HH HBX HV
  obtain ⟨N, hN⟩ : ∃ N, w.heap.size = N := ⟨_, rfl⟩
  have HN := Aside0.mk hN
  rw [hN] at HZ4 HH4 HG ⊢
  clear hN
  generalize rawB b 0 ((8 : Nat) : Int) = bs4 at HP4 HY4 HR4
  generalize rawE b 0 ((8 : Nat) : Int) = e4 at HP4 HR4
  rw [Nat.zero_add] at HP4
  go_wp2_with fail
  refine (numbers_calls (N + 1) _).mono ?_
  rintro en w5 ⟨rfl, hb⟩
  have HR5 := Aside0.mk (HR4.out.below hb)
  have HZ5 := Aside0.mk (blk_below HZ4.out hb)
  have HH5 := Aside0.mk (blk_below HH4.out hb)
  have HB5 := Aside0.mk (below_step HB4.out hb)
  clear hb HR4 HZ4 HH4 HB4
  unfold ptrs
  go_wp2_with fail
  have HPT := Aside0.mk (blk_new w5 (.cells (ptrs (N + 1)) 45))
  have HR6 := Aside0.mk (HR5.out.below (below_alloc (Below.refl _ _) (.cells (ptrs (N + 1)) 45)))
  have HZ6 := Aside0.mk (blk_below HZ5.out (below_alloc (Below.refl _ _) (.cells (ptrs (N + 1)) 45)))
  have HH6 := Aside0.mk (blk_below HH5.out (below_alloc (Below.refl _ _) (.cells (ptrs (N + 1)) 45)))
  have HB6 := Aside0.mk (below_alloc HB5.out (.cells (ptrs (N + 1)) 45))
  have HSG := Aside0.mk (show w5.heap.size ≠ g ∧ w5.heap.size ≠ N + 1 from ⟨by have := HR5.out.lt; omega, by have := blk_lt HH5.out; omega⟩)
  unfold ptrs at HPT HR6 HZ6 HH6 HB6
  clear HR5 HZ5 HH5 HB5
  generalize w5.alloc (.cells #[.pointer (some ⟨N + 1, 0, none⟩), .pointer (some ⟨N + 1, 1, none⟩), .pointer (some ⟨N + 1, 2, none⟩), .pointer (some ⟨N + 1, 3, none⟩), .pointer (some ⟨N + 1, 4, none⟩), .pointer (some ⟨N + 1, 5, none⟩), .pointer (some ⟨N + 1, 6, none⟩), .pointer (some ⟨N + 1, 7, none⟩), .pointer (some ⟨N + 1, 9, none⟩)] 45) = w6 at HPT HR6 HZ6 HH6 HB6 ⊢
  generalize w5.heap.size = S at HPT HSG ⊢
  go_loopg [18] 9 (fun kq v18 wx => ∃ (i : Nat) (bs : List Int) (e : Int) (f : Nat → Int), v18 = .int .i64 (i : Int) ∧ Aside0 (kq = 9 - i ∧ i ≤ 8) ∧ Aside0 (Rd wx g bs e) ∧ Aside0 (Byte bs) ∧ Aside0 (Pos b (8 + 4 * i) bs e) ∧ Aside0 (wx.heap[N + 1]? = some (.cells (hcells f) 26 (0, 0))) ∧ Aside0 (48 ≤ b.length → ∀ k, k < i → f k = at4 b k) ∧
    Aside0 (wx.heap[S]? = some (.cells (ptrs (N + 1)) 45 (0, 0))) ∧ Aside0 (wx.heap[N]? = some (.cells (hcells fun _ => 0) 26 (0, 0))) ∧ Aside0 (Below w.heap.size w wx))
  case atStart => exact ⟨0, bs4, e4, fun _ => 0, rfl, ⟨rfl, by omega⟩, HR6, HY4, HP4, HH6, ⟨fun _ k hk => absurd hk (by omega)⟩, HPT, HZ6, HB6⟩
  case round =>
    clear HR6 HY4 HP4 HH6 HPT HZ6 HB6
    obtain ⟨i, bs, e, f, rfl, HI, HR, HY, HP, HH, HF, HT, HZ, HB⟩ := hrel
    by_cases hi : i < 8
    · have g1 : decide ((i : Int) < 8) = true := decide_eq_true (by omega)
      have kp := ptrs_at HT.out hi
      go_wp2_with fail
      clear kp
      refine (num_wide HR.out HY.out (n := ((4 : Nat) : Int)) (by decide)).mono ?_
      rintro en w7 ⟨rfl, hr, hk⟩
      have HST := Aside0.mk (HP.out.step 4 (by omega))
      have HNB := Aside0.mk (num4_bd (HY.out.rawO e ((4 : Nat) : Int)) (rawO_len4 bs e))
      have HY7 := Aside0.mk (HY.out.rawB e ((4 : Nat) : Int))
      have HR7 := Aside0.mk hr
      have HH7 := Aside0.mk (hk.blk HH.out (by have := HG.out; omega))
      have HT7 := Aside0.mk (hk.blk HT.out HSG.out.1)
      have HZ7 := Aside0.mk (hk.blk HZ.out (by have := HG.out; omega))
      have HB7 := Aside0.mk (Keeps.below_then HB.out (Nat.le_refl _) hk (fun j hj => by have h1 : j = g := hj; have h2 := HG.out; have h3 := HN.out; omega))
      clear hr hk HR HH HT HZ HB
      have HO7 := Aside0.mk (show 48 ≤ b.length → num (rawO bs e ((4 : Nat) : Int)) = at4 b i from fun h => by rw [HST.out.2 h]; rfl)
      generalize num (rawO bs e ((4 : Nat) : Int)) = nv at HNB HO7 ⊢
      have hnb := HNB.out
      have kn := hcells_at HH7.out hi
      have kf := blk_frozen HH7.out i
      go_wp2_with fail
      clear hnb kn kf
      have hk2 : Keeps (fun k => k = N + 1) w7 (w7.setCell ⟨N + 1, i, none⟩ (.int .i64 nv)) := (Keeps.refl (fun k => k = N + 1) _).set (p := ⟨N + 1, i, none⟩) (Or.inl rfl) _
      have HR8 := Aside0.mk (Rd.far HR7.out hk2 (fun k hk => by subst hk; exact ⟨hcells_nobyte HH7.out, by have := HG.out; omega⟩))
      have HH8 := Aside0.mk (blk_put HH7.out i (.int .i64 nv) (hcells_set f nv hi))
      have HT8 := Aside0.mk (hk2.blk HT7.out HSG.out.2)
      have HZ8 := Aside0.mk (hk2.blk HZ7.out (by omega))
      have HB8 := Aside0.mk (Keeps.below_then HB7.out (Nat.le_refl _) hk2 (fun j hj => by have h1 : j = N + 1 := hj; have h3 := HN.out; omega))
      clear hk2
      go_roundg (8 - i)
      case measure => have := HI.out; omega
      case rel => exact ⟨i + 1, _, _, hset f i nv, by simp, ⟨by omega, by omega⟩, HR8, HY7, ⟨by rw [show 8 + 4 * (i + 1) = 8 + 4 * i + 4 by omega]; exact HST.out.1⟩, HH8, ⟨hset_told HF.out HO7.out⟩, HT8, HZ8, HB8⟩
    · have g1 : decide ((i : Int) < 8) = false := decide_eq_false (by omega)
      obtain rfl : i = 8 := by have := HI.out; omega
      clear hi HT
      go_wp2_with fail
      refine (num_wide HR.out HY.out (n := ((4 : Nat) : Int)) (by decide)).mono ?_
      rintro en w7 ⟨rfl, hr, hk⟩
      have HST := Aside0.mk (HP.out.step 4 (by omega))
      have HNB := Aside0.mk (num4_bd (HY.out.rawO e ((4 : Nat) : Int)) (rawO_len4 bs e))
      have HY7 := Aside0.mk (HY.out.rawB e ((4 : Nat) : Int))
      have HR7 := Aside0.mk hr
      have HH7 := Aside0.mk (hk.blk HH.out (by have := HG.out; omega))
      have HZ7 := Aside0.mk (hk.blk HZ.out (by have := HG.out; omega))
      have HB7 := Aside0.mk (Keeps.below_then HB.out (Nat.le_refl _) hk (fun j hj => by have h1 : j = g := hj; have h2 := HG.out; have h3 := HN.out; omega))
      clear hr hk HR HH HZ HB
      have HO7 := Aside0.mk (show 48 ≤ b.length → num (rawO bs e ((4 : Nat) : Int)) = at4 b 8 from fun h => by rw [HST.out.2 h]; rfl)
      generalize num (rawO bs e ((4 : Nat) : Int)) = nv at HNB HO7 ⊢
      have HF7 := Aside0.mk (hset_told HF.out HO7.out)
      have HP7 := Aside0.mk HST.out.1
      clear HST HO7 HF HP HY
      generalize rawB bs e ((4 : Nat) : Int) = bs7 at HY7 HR7 HP7
      generalize rawE bs e ((4 : Nat) : Int) = e7 at HR7 HP7
      have hnb := HNB.out
      have kn := (blk_cell HH7.out 8).trans (show (hcells f)[8]? = some (.int .u32 (f 8)) from rfl)
      have kf := blk_frozen HH7.out 8
      go_wp2_with fail
      clear hnb kn kf
      have hk2 : Keeps (fun k => k = N + 1) w7 (w7.setCell ⟨N + 1, 8, none⟩ (.int .u32 nv)) := (Keeps.refl (fun k => k = N + 1) _).set (p := ⟨N + 1, 8, none⟩) (Or.inl rfl) _
      have HR8 := Aside0.mk (Rd.far HR7.out hk2 (fun k hk => by subst hk; exact ⟨hcells_nobyte HH7.out, by have := HG.out; omega⟩))
      have HH8 := Aside0.mk (blk_put HH7.out 8 (.int .u32 nv) (hcells_set8 f nv))
      have HZ8 := Aside0.mk (hk2.blk HZ7.out (by omega))
      have HB8 := Aside0.mk (Keeps.below_then HB7.out (Nat.le_refl _) hk2 (fun j hj => by have h1 : j = N + 1 := hj; have h3 := HN.out; omega))
      have HU32 := Aside0.mk (show 0 ≤ hset f 8 nv 8 ∧ hset f 8 nv 8 < 4294967296 from HNB.out)
      clear hk2 HR7 HH7 HZ7 HB7 HNB
      generalize w7.setCell ⟨N + 1, 8, none⟩ (.int .u32 nv) = w8 at HR8 HH8 HZ8 HB8 ⊢
      generalize hset f 8 nv = f8 at HH8 HF7 HU32
      refine (num_wide HR8.out HY7.out (n := ((4 : Nat) : Int)) (by decide)).mono ?_
      rintro en w9 ⟨rfl, hr, hk⟩
      have HST := Aside0.mk (HP7.out.step 4 (by omega))
      have HNB := Aside0.mk (num4_bd (HY7.out.rawO e7 ((4 : Nat) : Int)) (rawO_len4 bs7 e7))
      have HR9 := Aside0.mk hr
      have HH9 := Aside0.mk (hk.blk HH8.out (by have := HG.out; omega))
      have HZ9 := Aside0.mk (hk.blk HZ8.out (by have := HG.out; omega))
      have HB9 := Aside0.mk (Keeps.below_then HB8.out (Nat.le_refl _) hk (fun j hj => by have h1 : j = g := hj; have h2 := HG.out; have h3 := HN.out; omega))
      clear hr hk HR8 HH8 HZ8 HB8
      have HO9 := Aside0.mk (show 48 ≤ b.length → num (rawO bs7 e7 ((4 : Nat) : Int)) = at4 b 9 from fun h => by rw [HST.out.2 h]; rfl)
      generalize num (rawO bs7 e7 ((4 : Nat) : Int)) = nv9 at HNB HO9 ⊢
      have HF9 := Aside0.mk (hset_told HF7.out HO9.out)
      have HP9 := Aside0.mk HST.out.1
      clear HST HO9 HF7 HP7 HY7
      generalize rawB bs7 e7 ((4 : Nat) : Int) = bs9 at HR9 HP9
      generalize rawE bs7 e7 ((4 : Nat) : Int) = e9 at HR9 HP9
      have hnb := HNB.out
      have kn := (blk_cell HH9.out 9).trans (show (hcells f8)[9]? = some (.int .i64 (f8 9)) from rfl)
      have kf := blk_frozen HH9.out 9
      go_wp2_with fail
      clear hnb kn kf
      have hk2 : Keeps (fun k => k = N + 1) w9 (w9.setCell ⟨N + 1, 9, none⟩ (.int .i64 nv9)) := (Keeps.refl (fun k => k = N + 1) _).set (p := ⟨N + 1, 9, none⟩) (Or.inl rfl) _
      have HR10 := Aside0.mk (Rd.far HR9.out hk2 (fun k hk => by subst hk; exact ⟨hcells_nobyte HH9.out, by have := HG.out; omega⟩))
      have HH10 := Aside0.mk (blk_put HH9.out 9 (.int .i64 nv9) (hcells_set9 f8 nv9))
      have HZ10 := Aside0.mk (hk2.blk HZ9.out (by omega))
      have HB10 := Aside0.mk (Keeps.below_then HB9.out (Nat.le_refl _) hk2 (fun j hj => by have h1 : j = N + 1 := hj; have h3 := HN.out; omega))
      have HU := Aside0.mk (show 0 ≤ hset f8 9 nv9 8 ∧ hset f8 9 nv9 8 < 4294967296 from HU32.out)
      clear hk2 HR9 HH9 HZ9 HB9 HNB HU32
      generalize w9.setCell ⟨N + 1, 9, none⟩ (.int .i64 nv9) = w10 at HR10 HH10 HZ10 HB10 ⊢
      generalize hset f8 9 nv9 = f9 at HH10 HF9 HU
      refine (err_calls HR10.out).mono ?_
      rintro en w11 ⟨rfl, rfl⟩
      by_cases he : e9 = 0
      rotate_left
      · have hlt : b.length < 48 := by
          rcases HP9.out with h | h
          · exact absurd h.1 he
          · exact h.2
        have HDV := Aside0.mk (show decV b = .tuple #[noHd, .int .i64 12] from by unfold decV; exact if_neg (fun h => by have := h.1; omega))
        have g2 : (e9 == 0) = false := by simp [he]
        clear he hlt
        obtain ⟨z0, z1, z2, z3, z4, z5, z6, z7, z8, z9⟩ := hcells_all HZ10.out
        have zf := fun i => blk_frozen HZ10.out i
        go_wp2_with fail
        have hfin := (ten_put HZ10.out (.int .i64 0) (.int .i64 0) (.int .i64 0) (.int .i64 0) (.int .i64 0) (.int .i64 0) (.int .i64 0) (.int .i64 0) (.int .u32 0) (.int .i64 0))
        refine bodyPost_ret (results_ct rfl _ _ N 26 #[.int .i64 0, .int .i64 0, .int .i64 0, .int .i64 0, .int .i64 0, .int .i64 0, .int .i64 0, .int .i64 0, .int .u32 0, .int .i64 0] (0, 0) _ rfl hfin.1 Try.underlying26 rfl (by kernel_rfl)) rfl ⟨?_, ?_⟩
        · rw [HDV.out]; rfl
        · exact Keeps.below_then HB10.out (Nat.le_refl _) hfin.2 (fun j hj => by have h1 : j = N := hj; have h3 := HN.out; omega)
      · subst he
        have h48 : 48 ≤ b.length := by
          rcases HP9.out with h | h
          · exact h.2.1
          · exact absurd rfl h.1
        obtain ⟨x, hx⟩ : ∃ x, hdOf b = x := ⟨_, rfl⟩
        have HX := Aside0.mk hx
        have hcs : hcells f9 = x.cs := by
          have hf := HF9.out h48
          rw [← hx]
          unfold hcells Hd.cs hdOf
          simp only [hf 0 (by omega), hf 1 (by omega), hf 2 (by omega), hf 3 (by omega), hf 4 (by omega), hf 5 (by omega), hf 6 (by omega), hf 7 (by omega), hf 8 (by omega), hf 9 (by omega)]
        have hty : x.typed := by
          have h8 := HF9.out h48 8 (by omega)
          have hu := HU.out
          rw [h8] at hu
          rw [← hx]
          exact hu
        have HXT := Aside0.mk hty
        have HL := Aside0.mk h48
        have HHX := Aside0.mk (show HdAt w10 (N + 1) 26 x from ⟨by rw [← hcs]; exact HH10.out⟩)
        have g2 : ((0 : Int) == 0) = true := rfl
        clear hx hcs hty h48 HH10 HF9 HU HP9
        obtain ⟨k0, k1, k2, k3, k4, k5, k6, k7, k8, k9⟩ := HHX.out.cells
        go_wp2_with fail
        clear k0 k1 k2 k3 k4 k5 k6 k7 k8 k9
        by_cases hrt : x.right
        rotate_left
        · refine (enc_bad x HXT.out hrt _).mono ?_
          rintro en w11 ⟨hen, hb⟩
          unfold bad at hen
          subst hen
          have HDV := Aside0.mk (show decV b = .tuple #[noHd, .int .i64 12] from by unfold decV; exact if_neg (fun h => hrt (by have := h.2.1; rw [HX.out] at this; exact this)))
          have HZ11 := Aside0.mk (blk_below HZ10.out hb)
          have HB11 := Aside0.mk (below_step HB10.out hb)
          clear hb HZ10 HB10 hrt HHX HR10
          obtain ⟨z0, z1, z2, z3, z4, z5, z6, z7, z8, z9⟩ := hcells_all HZ11.out
          have zf := fun i => blk_frozen HZ11.out i
          go_wp2_with fail
          have hfin := (ten_put HZ11.out (.int .i64 0) (.int .i64 0) (.int .i64 0) (.int .i64 0) (.int .i64 0) (.int .i64 0) (.int .i64 0) (.int .i64 0) (.int .u32 0) (.int .i64 0))
          refine bodyPost_ret (results_ct rfl _ _ N 26 #[.int .i64 0, .int .i64 0, .int .i64 0, .int .i64 0, .int .i64 0, .int .i64 0, .int .i64 0, .int .i64 0, .int .u32 0, .int .i64 0] (0, 0) _ rfl hfin.1 Try.underlying26 rfl (by kernel_rfl)) rfl ⟨?_, ?_⟩
          · rw [HDV.out]; rfl
          · exact Keeps.below_then HB11.out (Nat.le_refl _) hfin.2 (fun j hj => by have h1 : j = N := hj; have h3 := HN.out; omega)
        · refine (enc_ok x HXT.out hrt _).mono ?_
          rintro en w11 ⟨v11, rfl, hR, hb⟩
          have HE := Aside0.mk (show Bys x.blk v11 w11 from Kd.R_reads hR)
          have HHX11 := Aside0.mk (HHX.out.below hb)
          have HZ11 := Aside0.mk (blk_below HZ10.out hb)
          have HB11 := Aside0.mk (below_step HB10.out hb)
          have HRT := Aside0.mk hrt
          clear hb hR HZ10 HB10 hrt HHX HR10
          go_wp2_with fail
          refine (equal_calls HE.out (HBY.out.mono HB11.out) (by have h1 := blk_len (x := x) HRT.out.1.2.2.2.2.2.2.1; have h2 := HRT.out.1.2.2.2.2.2.1; omega)).mono ?_
          rintro en w12 ⟨rfl, hb⟩
          have HHX12 := Aside0.mk (HHX11.out.below hb)
          have HZ12 := Aside0.mk (blk_below HZ11.out hb)
          have HB12 := Aside0.mk (below_step HB11.out hb)
          clear hb HZ11 HB11 HHX11 HE
          by_cases heq : x.blk = b
          · rw [decide_eq_true heq]
            have HDV := Aside0.mk (show decV b = .tuple #[x.v, .int .i64 0] from by unfold decV; rw [if_pos (show isHd b from ⟨HL.out, by rw [HX.out]; exact HRT.out, by rw [HX.out]; exact heq⟩), HX.out])
            clear heq
            obtain ⟨z0, z1, z2, z3, z4, z5, z6, z7, z8, z9⟩ := hcells_all HZ12.out
            have zf := fun i => blk_frozen HZ12.out i
            obtain ⟨k0, k1, k2, k3, k4, k5, k6, k7, k8, k9⟩ := HHX12.out.cells
            go_wp2_with fail
            have hfin := (ten_put HZ12.out (.int .i64 x.c.blocks) (.int .i64 x.c.bytes) (.int .i64 x.c.frames) (.int .i64 x.c.fan) (.int .i64 x.c.buf) (.int .i64 x.c.leaf) (.int .i64 x.c.key) (.int .i64 x.c.val) (.int .u32 x.root) (.int .i64 x.h))
            refine bodyPost_ret (results_ct rfl _ _ N 26 x.cs (0, 0) _ rfl hfin.1 Try.underlying26 rfl (by kernel_rfl)) rfl ⟨?_, ?_⟩
            · rw [HDV.out]; rfl
            · exact Keeps.below_then HB12.out (Nat.le_refl _) hfin.2 (fun j hj => by have h1 : j = N := hj; have h3 := HN.out; omega)
          · rw [decide_eq_false heq]
            have HDV := Aside0.mk (show decV b = .tuple #[noHd, .int .i64 12] from by unfold decV; exact if_neg (fun h => heq (by have := h.2.2; rw [HX.out] at this; exact this)))
            clear heq
            obtain ⟨z0, z1, z2, z3, z4, z5, z6, z7, z8, z9⟩ := hcells_all HZ12.out
            have zf := fun i => blk_frozen HZ12.out i
            go_wp2_with fail
            have hfin := (ten_put HZ12.out (.int .i64 0) (.int .i64 0) (.int .i64 0) (.int .i64 0) (.int .i64 0) (.int .i64 0) (.int .i64 0) (.int .i64 0) (.int .u32 0) (.int .i64 0))
            refine bodyPost_ret (results_ct rfl _ _ N 26 #[.int .i64 0, .int .i64 0, .int .i64 0, .int .i64 0, .int .i64 0, .int .i64 0, .int .i64 0, .int .i64 0, .int .u32 0, .int .i64 0] (0, 0) _ rfl hfin.1 Try.underlying26 rfl (by kernel_rfl)) rfl ⟨?_, ?_⟩
            · rw [HDV.out]; rfl
            · exact Keeps.below_then HB12.out (Nat.le_refl _) hfin.2 (fun j hj => by have h1 : j = N := hj; have h3 := HN.out; omega)
end Go.Proofs.Ytlnndkhnabooeaa.Head
