/- HeadBack: what the law's call comes to. -/
import Derived.Test.YtlnndkhnabooeaaHeadLaws
namespace Go.Proofs.Ytlnndkhnabooeaa.Head
open Go.RowKit Go.Proofs.YtlnndkhnabooeaaW.PrintWords Go.Proofs.YtlnndkhnabooeaaW.PrintLast Go.Proofs.YtlnndkhnabooeaaW.PrintMore
open Go.Proofs.Ytlnndkhnabooeaa Go.Proofs.Ytlnndkhnabooeaa.Vals Go.Proofs.Ytlnndkhnabooeaa.Word Go.Proofs.Ytlnndkhnabooeaa.Q Go.Proofs.Ytlnndkhnabooeaa.Math
set_option linter.unusedVariables false
set_option linter.unusedSimpArgs false

theorem back_bad (x : Hd) (hx : x.typed) (hr : ¬ x.right) (v2 v3 : Value) (w : World) : Calls Try.prog 5 #[x.v, v2, v3] w fun e w' => e = .returned (.bool true) ∧ Below w.heap.size w w' := by
  have HZ := Aside0.mk (show HdAt (w.alloc (.cells x.cs 26)) w.heap.size 26 x from ⟨blk_new w _⟩)
  have HB := Aside0.mk (below_alloc (Below.refl w.heap.size w) (.cells x.cs 26))
  have HEN := Aside0.mk (fun w => enc_bad x hx hr w)
  have HAS := Aside0.mk (fun w => as_calls x w)
  have hrr := fun w => rhright_calls x hx w
  rw [decide_eq_false hr] at hrr
  have HRR := Aside0.mk hrr
  clear hrr hr hx
  unfold Hd.v at HEN HAS HRR ⊢
  unfold Hd.cs at HZ HB
  unfold bad at HEN
  go_enter Try.func5, Try.ntmps5
  go_wp2_with fail
  refine (HEN.out _).mono ?_
  rintro en w1 ⟨rfl, hb⟩
  have HZ1 := Aside0.mk (HZ.out.below hb)
  have HB1 := Aside0.mk (below_step HB.out hb)
  clear hb HZ HB HEN
  obtain ⟨k0, k1, k2, k3, k4, k5, k6, k7, k8, k9⟩ := HZ1.out.cells
  go_wp2_with fail
  clear k0 k1 k2 k3 k4 k5 k6 k7 k8 k9
  refine (HAS.out _).mono ?_
  rintro en w2 ⟨rfl, hb⟩
  have HB2 := Aside0.mk (below_step HB1.out hb)
  clear hb HZ1 HB1 HAS
  go_wp2_with fail
  refine (HRR.out _).mono ?_
  rintro en w3 ⟨rfl, hb⟩
  have HB3 := Aside0.mk (below_step HB2.out hb)
  clear hb HB2 HRR
  go_wp2_with fail
  refine (awake_calls _).mono ?_
  rintro en w5 ⟨rfl, hb⟩
  have HB5 := Aside0.mk (below_step HB3.out hb)
  clear hb HB3
  go_wp2_with fail
  go_ret
  exact ⟨by simp, HB5.out⟩

theorem set_same (b : List Int) {k : Nat} (hk : k < b.length) : b.set k (b.getD k 0) = b := by
  apply List.ext_getElem?
  intro i
  rw [List.getElem?_set]
  by_cases e : k = i
  · subst e
    rw [if_pos rfl, if_pos hk, List.getD_eq_getElem?_getD, List.getElem?_eq_getElem hk]
    rfl
  · rw [if_neg e]
def turn (x by_ : Int) : Int := IntKind.u8.wrap (x + by_)
theorem turn_bd (x y : Int) : 0 ≤ turn x y ∧ turn x y ≤ 255 := by
  unfold turn
  simp [IntKind.wrap, IntKind.signed, IntKind.bits]
  omega
theorem turn_same {x y : Int} (hx : 0 ≤ x ∧ x ≤ 255) (hy : 0 ≤ y ∧ y < 256) : turn x y = x ↔ y = 0 := by
  unfold turn
  simp [IntKind.wrap, IntKind.signed, IntKind.bits]
  omega
/-- Whether what was turned is a head's block still. -/
theorem dec_turned {x : Hd} (h : x.right) {k : Nat} (hk : k < x.blk.length) {y : Int} (hy : 0 ≤ y ∧ y < 256) : decV (x.blk.set k (turn (x.blk.getD k 0) y)) = if y = 0 then .tuple #[x.v, .int .i64 0] else .tuple #[noHd, .int .i64 12] := by
  have hby : 0 ≤ x.blk.getD k 0 ∧ x.blk.getD k 0 ≤ 255 := by
    rw [List.getD_eq_getElem?_getD, List.getElem?_eq_getElem hk]
    exact by_blk x _ (List.getElem_mem hk)
  by_cases e : y = 0
  · rw [if_pos e, (turn_same hby hy).2 e, set_same _ hk, dec_blk h]
  · rw [if_neg e]
    unfold decV
    exact if_neg (turned h hk (turn_bd _ _).1 (turn_bd _ _).2 (fun h => e ((turn_same hby hy).1 h)))

set_option maxHeartbeats 4000000 in
set_option maxRecDepth 100000 in
theorem back_ok (x : Hd) (hx : x.typed) (hr : x.right) (a y : Int) (ha : 0 ≤ a ∧ a < 65536) (hy : 0 ≤ y ∧ y < 256) (w : World) : Calls Try.prog 5 #[x.v, .int .u16 a, .int .u8 y] w fun e w' => e = .returned (.bool true) ∧ Below w.heap.size w w' := by
  have HZ := Aside0.mk (show HdAt (w.alloc (.cells x.cs 26)) w.heap.size 26 x from ⟨blk_new w _⟩)
  have HB := Aside0.mk (below_alloc (Below.refl w.heap.size w) (.cells x.cs 26))
  have HEN := Aside0.mk (fun w => enc_ok x hx hr w)
  have HRT := Aside0.mk hr
  clear hx
  unfold Hd.v at HEN ⊢
  unfold Hd.cs at HZ HB
  go_enter Try.func5, Try.ntmps5
  go_wp2_with fail
  refine (HEN.out _).mono ?_
  rintro en w1 ⟨v1, rfl, hR, hb⟩
  obtain ⟨A, c, rfl, hc1, hC1⟩ := Kd.R_reads hR
  have hbl := blk_len (x := x) hr.1.2.2.2.2.2.2.1
  have hbb : 64 ≤ x.c.bytes := hr.1.2.2.2.2.2.2.1
  have hbm : x.c.bytes ≤ 65536 := hr.1.2.2.2.2.2.1
  obtain ⟨ad, rfl, _⟩ := hC1.2.2 (by omega)
  obtain ⟨g, rfl⟩ := Kd.R_head hR
  obtain ⟨n, hn⟩ : ∃ n, x.blk.length = n := ⟨_, rfl⟩
  have HN := Aside0.mk hn
  have HLN := Aside0.mk (show 64 ≤ n ∧ n ≤ 65536 from ⟨by omega, by omega⟩)
  have HGG := Aside0.mk (show w.heap.size + 1 ≤ g from by
    have h1 := Kd.R_base hR g rfl
    rw [show (w.alloc (.cells #[.int .i64 x.c.blocks, .int .i64 x.c.bytes, .int .i64 x.c.frames, .int .i64 x.c.fan, .int .i64 x.c.buf, .int .i64 x.c.leaf, .int .i64 x.c.key, .int .i64 x.c.val, .int .u32 x.root, .int .i64 x.h] 26)).heap.size = w.heap.size + 1 from Array.size_push _] at h1
    exact h1)
  rw [hn] at hR hc1 hC1 ⊢
  have HR1 := Aside0.mk hR
  have HZ1 := Aside0.mk (HZ.out.below hb)
  have HB1 := Aside0.mk (below_step HB.out hb)
  clear hb HZ HB HEN hR hc1 hC1 hbl hbb hbm hn
  have HBY := Aside0.mk (show Bys x.blk (.slice (some ⟨g, 0, none⟩) n c) w1 from Kd.R_reads HR1.out)
  go_wp2_with fail
  refine (dec_calls HBY.out (by_blk x) (by rw [HN.out]; have := HLN.out; omega)).mono ?_
  rw [dec_blk hr]
  rintro en w2 ⟨rfl, hb⟩
  have HR2 := Aside0.mk (Kd.R_below HR1.out hb)
  have HZ2 := Aside0.mk (HZ1.out.below hb)
  have HB2 := Aside0.mk (below_step HB1.out hb)
  clear hb HR1 HZ1 HB1 HBY hr
  unfold Hd.v
  simp only
  go_upto_region 5 with fail
  have HH3 := Aside0.mk (show HdAt (w2.alloc (.cells x.cs 26)) w2.heap.size 26 x from ⟨blk_new w2 _⟩)
  have HR3 := Aside0.mk (Kd.R_below HR2.out (below_alloc (Below.refl _ _) (.cells x.cs 26)))
  have HZ3 := Aside0.mk (HZ2.out.below (below_alloc (Below.refl _ _) (.cells x.cs 26)))
  have HB3 := Aside0.mk (below_alloc HB2.out (.cells x.cs 26))
  unfold Hd.cs at HH3 HR3 HZ3 HB3
  clear HR2 HZ2 HB2
  generalize w2.alloc (.cells #[.int .i64 x.c.blocks, .int .i64 x.c.bytes, .int .i64 x.c.frames, .int .i64 x.c.fan, .int .i64 x.c.buf, .int .i64 x.c.leaf, .int .i64 x.c.key, .int .i64 x.c.val, .int .u32 x.root, .int .i64 x.h] 26) = w3 at HH3 HR3 HZ3 HB3 ⊢
  generalize w2.heap.size = H at HH3 ⊢
  obtain ⟨k0, k1, k2, k3, k4, k5, k6, k7, k8, k9⟩ := HH3.out.cells
  obtain ⟨z0, z1, z2, z3, z4, z5, z6, z7, z8, z9⟩ := HZ3.out.cells
  have he := fun d W => eqA26 d W x.c.blocks x.c.bytes x.c.frames x.c.fan x.c.buf x.c.leaf x.c.key x.c.val x.root x.h x.c.blocks x.c.bytes x.c.frames x.c.fan x.c.buf x.c.leaf x.c.key x.c.val x.root x.h
  have gn : ((n : Int) == 0) = false := by have := HLN.out; simp; omega
  obtain ⟨K, hK⟩ : ∃ K, a.toNat % n = K := ⟨_, rfl⟩
  have hKn : K < n := by rw [← hK]; exact Nat.mod_lt _ (by have := HLN.out; omega)
  have hrem : Int.tmod a (n : Int) = (K : Int) := by
    obtain ⟨m, rfl⟩ := Int.eq_ofNat_of_zero_le ha.1
    rw [← hK]
    rfl
  have hkK : K < x.blk.length := by rw [HN.out]; exact hKn
  have HKK := Aside0.mk hkK
  have HA := Aside0.mk ha
  have hcl := Kd.R_celln (0 : Int) HR3.out (K : Int) (by omega) (by omega)
  obtain ⟨kc, kf⟩ := hcl
  rw [Int.toNat_natCast] at kc kf
  go_wp2_with fail
  have e : (rdOf 0 x.blk (K : Int) + y) % 256 = turn (x.blk.getD K 0) y := by
    unfold turn rdOf
    simp [IntKind.wrap, IntKind.signed, IntKind.bits]
  rw [e]
  have hp := (Kd.R_putg HR3.out (K : Int) (turn (x.blk.getD K 0) y)).1
  rw [Int.toNat_natCast] at hp
  have HR4 := Aside0.mk hp
  have HB4 := Aside0.mk (show Below w.heap.size w (w3.setCell ⟨g, K, none⟩ (.int .u8 (turn (x.blk.getD K 0) y))) from below_set HB3.out (by have := HGG.out; omega))
  clear e hp he gn hrem hkK kc kf k0 k1 k2 k3 k4 k5 k6 k7 k8 k9 z0 z1 z2 z3 z4 z5 z6 z7 z8 z9 HH3 HR3 HZ3 HB3
  generalize w3.setCell ⟨g, K, none⟩ (.int .u8 (turn (x.blk.getD K 0) y)) = w4 at HR4 HB4 ⊢
  have hby : Byte (x.blk.set K (turn (x.blk.getD K 0) y)) := fun c hc => by
    rcases List.mem_or_eq_of_mem_set hc with h | h
    · exact by_blk x c h
    · rw [h]; exact turn_bd _ _
  have HBY := Aside0.mk (show Bys (x.blk.set K (turn (x.blk.getD K 0) y)) (.slice (some ⟨g, 0, none⟩) n c) w4 from Kd.R_reads HR4.out)
  refine (dec_calls HBY.out hby (by rw [List.length_set, HN.out]; have := HLN.out; omega)).mono ?_
  rw [dec_turned HRT.out HKK.out hy]
  clear hby HBY hy ha
  by_cases hy0 : y = 0
  · rw [if_pos hy0]
    have gy : (y == 0) = true := by simp [hy0]
    clear hy0
    rintro en w5 ⟨rfl, hb⟩
    have HB5 := Aside0.mk (below_step HB4.out hb)
    clear hb HB4 HR4
    unfold Hd.v
    simp only
    go_upto_region 9 with fail
    have HB6 := Aside0.mk (below_alloc HB5.out (.cells x.cs 26))
    unfold Hd.cs at HB6
    generalize w5.alloc (.cells #[.int .i64 x.c.blocks, .int .i64 x.c.bytes, .int .i64 x.c.frames, .int .i64 x.c.fan, .int .i64 x.c.buf, .int .i64 x.c.leaf, .int .i64 x.c.key, .int .i64 x.c.val, .int .u32 x.root, .int .i64 x.h] 26) = w6 at HB6 ⊢
    go_wp2_with fail
    refine (awake_calls _).mono ?_
    rintro en w7 ⟨rfl, hb⟩
    have HB7 := Aside0.mk (below_step HB6.out hb)
    clear hb
    go_wp2_with fail
    go_ret
    exact ⟨by simp, HB7.out⟩
  · rw [if_neg hy0]
    have gy : (y == 0) = false := by simp [hy0]
    clear hy0
    rintro en w5 ⟨rfl, hb⟩
    have HB5 := Aside0.mk (below_step HB4.out hb)
    clear hb HB4 HR4
    unfold noHd
    simp only
    go_upto_region 9 with fail
    have HB6 := Aside0.mk (below_alloc HB5.out (.cells #[.int .i64 0, .int .i64 0, .int .i64 0, .int .i64 0, .int .i64 0, .int .i64 0, .int .i64 0, .int .i64 0, .int .u32 0, .int .i64 0] 26))
    generalize w5.alloc (.cells #[.int .i64 0, .int .i64 0, .int .i64 0, .int .i64 0, .int .i64 0, .int .i64 0, .int .i64 0, .int .i64 0, .int .u32 0, .int .i64 0] 26) = w6 at HB6 ⊢
    go_wp2_with fail
    refine (awake_calls _).mono ?_
    rintro en w7 ⟨rfl, hb⟩
    have HB7 := Aside0.mk (below_step HB6.out hb)
    clear hb
    go_wp2_with fail
    go_ret
    exact ⟨by simp, HB7.out⟩

theorem back_calls (x : Hd) (hx : x.typed) (a y : Int) (ha : 0 ≤ a ∧ a < 65536) (hy : 0 ≤ y ∧ y < 256) (w : World) : Calls Try.prog 5 #[x.v, .int .u16 a, .int .u8 y] w fun e w' => e = .returned (.bool true) ∧ Below w.heap.size w w' := by
  by_cases hr : x.right
  · exact back_ok x hx hr a y ha hy w
  · exact back_bad x hx hr _ _ w
end Go.Proofs.Ytlnndkhnabooeaa.Head
