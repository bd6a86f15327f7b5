/- How two tuples stand: walked. -/
import Derived.Test.YtdekhhimjnockaaDoorTuBegins
namespace Go.Proofs.YtdekhhimjnockaaDoor.Tu
open Go.RowKit Go.Proofs.YtdekhhimjnockaaDoorW.PrintWords Go.Proofs.YtdekhhimjnockaaDoorW.PrintLast Go.Proofs.YtdekhhimjnockaaDoorW.PrintMore
open Go.Proofs.YtdekhhimjnockaaDoor Go.Proofs.YtdekhhimjnockaaDoor.Vals Go.Proofs.YtdekhhimjnockaaDoor.Word Go.Proofs.YtdekhhimjnockaaDoor.Q Go.Proofs.YtdekhhimjnockaaDoor.S
set_option linter.unusedVariables false
set_option linter.unusedSimpArgs false

theorem lcmp_calls (a b : ByteArray) (w : World) : Calls Tryd.prog 43 #[.string a, .string b] w fun e w' => e = .returned (.int .i64 (Lib.compareBytes a.data.toList b.data.toList)) ∧ Below w.heap.size w w' := by
  have HC := Aside0.mk (Sh.Tryd.strings_Compare a b w)
  obtain ⟨X, hX⟩ : ∃ X, Lib.compareBytes a.data.toList b.data.toList = X := ⟨_, rfl⟩
  rw [hX] at HC
  rw [hX]
  clear hX
  go_enter Tryd.func43, Tryd.ntmps43
  go_wp2_with fail
  refine HC.out.mono ?_
  rintro en w2 ⟨rfl, rfl⟩
  go_wp2_with fail
  exact bodyPost_ret (v := .int .i64 X) (by simp [results, Tryd.results43, go_sem]) rfl ⟨rfl, Below.refl _ _⟩
theorem ucmp_calls (a b : Int) (w : World) : Calls Tryd.prog 42 #[.int .u64 a, .int .u64 b] w fun e w' => e = .returned (.int .i64 (cmpI a b)) ∧ Below w.heap.size w w' := by
  refine (cmp_Compare_uint64.calls a b (cmpI a b) w ?_).mono ?_
  · unfold cmp_Compare_uint64.f cmp_isNaN_uint64.f cmpI
    simp only [Option.bind_some, bne_self_eq_false, Bool.false_eq_true, if_false]
    by_cases h1 : a < b
    · rw [if_pos h1, if_pos h1]
    · rw [if_neg h1, if_neg h1]
      by_cases h2 : a > b
      · rw [if_pos h2, if_pos h2]
      · rw [if_neg h2, if_neg h2]
  · rintro e w' ⟨rfl, hb⟩
    exact ⟨rfl, hb.below⟩
set_option maxHeartbeats 8000000 in
set_option maxRecDepth 100000 in
theorem pcmp_calls {p q : S45} (hp : mayP p = true) (hq : mayP q = true) (w : World) :
    Calls Tryd.prog 33 #[.agg #[.bool p.f0, .int .u64 p.f1, .string p.f2], .agg #[.bool q.f0, .int .u64 q.f1, .string q.f2]] w fun e w' => e = .returned (.int .i64 (cmpP p q)) ∧ Below w.heap.size w w' := by
  obtain ⟨p0, p1, p2⟩ := p
  obtain ⟨q0, q1, q2⟩ := q
  have HR := Aside0.mk (show p0 = true → q0 = true → cmpP ⟨p0, p1, p2⟩ ⟨q0, q1, q2⟩ = cmpI p1 q1 from fun h1 h2 => by
    subst h1 h2
    obtain rfl : p2 = ⟨#[]⟩ := empty_of hp
    obtain rfl : q2 = ⟨#[]⟩ := empty_of hq
    rfl)
  have HT := Aside0.mk (show p0 = false → q0 = false → cmpP ⟨p0, p1, p2⟩ ⟨q0, q1, q2⟩ = Lib.compareBytes p2.data.toList q2.data.toList from fun h1 h2 => by
    subst h1 h2
    obtain rfl : p1 = 0 := beq_iff_eq.1 hp
    obtain rfl : q1 = 0 := beq_iff_eq.1 hq
    rfl)
  have HX := Aside0.mk (show p0 ≠ q0 → cmpP ⟨p0, p1, p2⟩ ⟨q0, q1, q2⟩ = if p0 = true then -1 else 1 from fun h => if_pos (by simpa using h))
  obtain ⟨R, hR⟩ : ∃ R, cmpP ⟨p0, p1, p2⟩ ⟨q0, q1, q2⟩ = R := ⟨_, rfl⟩
  rw [hR] at HR HT HX
  rw [hR]
  clear hR hp hq
  simp only
  have HB1 := Aside0.mk (below_alloc (Below.refl w.heap.size w) (.cells #[.bool p0, .int .u64 p1, .string p2] 45))
  have HZ1 := Aside0.mk (blk_new w (.cells #[.bool p0, .int .u64 p1, .string p2] 45))
  go_enter Tryd.func33, Tryd.ntmps33
  go_upto_region 1 with fail
  have hsz : (w.alloc (.cells #[.bool p0, .int .u64 p1, .string p2] 45)).heap.size = w.heap.size + 1 := by simp
  generalize w.alloc (.cells #[.bool p0, .int .u64 p1, .string p2] 45) = w1 at HB1 HZ1 hsz ⊢
  have HB2 := Aside0.mk (below_step HB1.out (below_alloc (Below.refl w1.heap.size w1) (.cells #[.bool q0, .int .u64 q1, .string q2] 45)))
  have HZ2 := Aside0.mk (blk_below HZ1.out (below_alloc (Below.refl w1.heap.size w1) (.cells #[.bool q0, .int .u64 q1, .string q2] 45)))
  have HY2 := Aside0.mk (blk_new w1 (.cells #[.bool q0, .int .u64 q1, .string q2] 45))
  clear HB1 HZ1
  generalize w1.alloc (.cells #[.bool q0, .int .u64 q1, .string q2] 45) = w2 at HB2 HZ2 HY2 ⊢
  rw [hsz] at HY2
  clear hsz
  obtain ⟨T, hT⟩ : ∃ T, w.heap.size + 1 = T := ⟨_, rfl⟩
  rw [hT] at HY2 ⊢
  clear hT
  obtain ⟨S, hS⟩ : ∃ S, w.heap.size = S := ⟨_, rfl⟩
  rw [hS] at HZ2 ⊢
  clear hS
  have x0 := (blk_cell HZ2.out 0).trans rfl
  have x1 := (blk_cell HZ2.out 1).trans rfl
  have x2 := (blk_cell HZ2.out 2).trans rfl
  have y0 := (blk_cell HY2.out 0).trans rfl
  have y1 := (blk_cell HY2.out 1).trans rfl
  have y2 := (blk_cell HY2.out 2).trans rfl
  cases p0 <;> cases q0
  · have HCC := Aside0.mk (lcmp_calls p2 q2 w2)
    rw [← HT.out rfl rfl] at HCC
    clear HR HT HX
    go_wp2_with fail
    refine HCC.out.mono ?_
    rintro en w3 ⟨rfl, hb⟩
    have HB3 := Aside0.mk (below_step HB2.out hb)
    clear hb
    go_wp2_with fail
    exact bodyPost_ret (v := .int .i64 R) (by simp [results, Tryd.results33, go_sem]) rfl ⟨rfl, HB3.out⟩
  · obtain rfl := HX.out (by decide)
    clear HR HT HX
    go_wp2_with fail
    exact bodyPost_ret (v := .int .i64 1) (by simp [results, Tryd.results33, go_sem]) rfl ⟨rfl, HB2.out⟩
  · obtain rfl := HX.out (by decide)
    clear HR HT HX
    go_wp2_with fail
    exact bodyPost_ret (v := .int .i64 (-1)) (by simp [results, Tryd.results33, go_sem]) rfl ⟨rfl, HB2.out⟩
  · have HCC := Aside0.mk (ucmp_calls p1 q1 w2)
    rw [← HR.out rfl rfl] at HCC
    clear HR HT HX
    go_wp2_with fail
    refine HCC.out.mono ?_
    rintro en w3 ⟨rfl, hb⟩
    have HB3 := Aside0.mk (below_step HB2.out hb)
    clear hb
    go_wp2_with fail
    exact bodyPost_ret (v := .int .i64 R) (by simp [results, Tryd.results33, go_sem]) rfl ⟨rfl, HB3.out⟩
set_option maxHeartbeats 8000000 in
set_option maxRecDepth 100000 in
theorem cfunc_calls {w : World} {A B : Option Addr} {c d : Nat} {a b : List S45} (h : k45.C w A a.length a) (hc : a.length ≤ c) (h2 : k45.C w B b.length b) (hd : b.length ≤ d) (ga : Good a) (gb : Good b) (ha : a.length ≤ 100000) (hb : b.length ≤ 100000) :
    Calls Tryd.prog 32 #[.slice A a.length c, .slice B b.length d, .func (.func 33) #[] #[]] w fun e w' => e = .returned (.int .i64 (cmpL a b)) ∧ Below w.heap.size w w' := by
  have HA := Aside0.mk h
  have HB := Aside0.mk h2
  have HGA := Aside0.mk ga
  have HGB := Aside0.mk gb
  have HAL := Aside0.mk ha
  have HBL := Aside0.mk hb
  have q9 : ((a.length : Nat) : Int) ≤ 100000 := by omega
  clear h h2 hc hd ga gb ha hb
  obtain ⟨R, hR⟩ : ∃ R, cmpL a b = R := ⟨_, rfl⟩
  have HR := Aside0.mk hR
  rw [hR]
  clear hR
  go_enter Tryd.func32, Tryd.ntmps32
  go_wp2_with fail
  go_loopg [13] a.length (fun kq v13 wx => ∃ i : Nat, v13 = .int .i64 (i : Int) ∧ Aside0 (kq = a.length - i ∧ i ≤ a.length ∧ i ≤ b.length) ∧ Aside0 (Below w.heap.size w wx) ∧ Aside0 (cmpL (a.drop i) (b.drop i) = R))
  case atStart => exact ⟨0, rfl, ⟨rfl, Nat.zero_le _, Nat.zero_le _⟩, ⟨Below.refl _ _⟩, ⟨HR.out⟩⟩
  case round =>
    obtain ⟨i, rfl, HI, HW, HU⟩ := hrel
    by_cases hi : i < a.length
    · have t1 : decide (i < a.length) = true := decide_eq_true hi
      have g2 : (i : Int) < (a.length : Int) := by omega
      have hC := Kd.C_below HA.out HW.out
      obtain ⟨ad, ep, p0, p1, p2⟩ := at_T45 hC (i : Int) (by omega) (by omega)
      rw [rd45 hi, Int.toNat_natCast] at p0 p1 p2
      by_cases hib : i < b.length
      · have t2 : decide (b.length ≤ i) = false := decide_eq_false (by omega)
        have g3 : (i : Int) < (b.length : Int) := by omega
        have HU2 := Aside0.mk (show (if cmpP a[i] b[i] ≠ 0 then cmpP a[i] b[i] else cmpL (a.drop (i + 1)) (b.drop (i + 1))) = R from by rw [← HU.out, List.drop_eq_getElem_cons hi, List.drop_eq_getElem_cons hib, cmpL])
        have HPC := Aside0.mk (fun W => pcmp_calls (p := a[i]) (q := b[i]) (HGA.out _ (List.getElem_mem hi)).1 (HGB.out _ (List.getElem_mem hib)).1 W)
        have HI2 := Aside0.mk (show i < a.length ∧ i < b.length from ⟨hi, hib⟩)
        obtain ⟨p, hp⟩ : ∃ p, a[i] = p := ⟨_, rfl⟩
        obtain ⟨q, hq⟩ : ∃ q, b[i] = q := ⟨_, rfl⟩
        rw [hp] at p0 p1 p2 HU2
        rw [hq] at HU2
        simp only [hp, hq] at HPC
        cases ep
        have HHQ := Aside0.mk (show rd_T45 b (i : Int) = q from by rw [rd45 hib, hq])
        clear hi hib hC hp hq HU
        obtain ⟨f0, f1, f2⟩ := p
        obtain ⟨e0, e1, e2⟩ := q
        simp only at p0 p1 p2
        obtain ⟨X, hX⟩ : ∃ X, cmpP ⟨f0, f1, f2⟩ ⟨e0, e1, e2⟩ = X := ⟨_, rfl⟩
        rw [hX] at HU2
        simp only [hX] at HPC
        clear hX
        go_upto_region 4 with fail
        have HBB := below_alloc (Below.refl wr.heap.size wr) (.cells #[.bool f0, .int .u64 f1, .string f2] 45)
        have HZ1 := Aside0.mk (blk_new wr (.cells #[.bool f0, .int .u64 f1, .string f2] 45))
        have HW1 := Aside0.mk (below_step HW.out HBB)
        clear HBB p0 p1 p2 HW
        generalize wr.alloc (.cells #[.bool f0, .int .u64 f1, .string f2] 45) = w1 at HZ1 HW1 ⊢
        obtain ⟨S, hS⟩ : ∃ S, wr.heap.size = S := ⟨_, rfl⟩
        rw [hS] at HZ1 ⊢
        clear hS
        have hD := Kd.C_below HB.out HW1.out
        obtain ⟨ad2, ep2, r0, r1, r2⟩ := at_T45 hD (i : Int) (by omega) (by omega)
        rw [HHQ.out, Int.toNat_natCast] at r0 r1 r2
        simp only at r0 r1 r2
        cases ep2
        clear hD HHQ
        go_upto_region 7 with fail
        have HBB := below_alloc (Below.refl w1.heap.size w1) (.cells #[.bool e0, .int .u64 e1, .string e2] 45)
        have HZ2 := Aside0.mk (blk_below HZ1.out HBB)
        have HY2 := Aside0.mk (blk_new w1 (.cells #[.bool e0, .int .u64 e1, .string e2] 45))
        have HW2 := Aside0.mk (below_step HW1.out HBB)
        clear HBB r0 r1 r2 HW1 HZ1
        generalize w1.alloc (.cells #[.bool e0, .int .u64 e1, .string e2] 45) = w2 at HZ2 HY2 HW2 ⊢
        obtain ⟨T, hT⟩ : ∃ T, w1.heap.size = T := ⟨_, rfl⟩
        rw [hT] at HY2 ⊢
        clear hT
        have x0 := (blk_cell HZ2.out 0).trans rfl
        have x1 := (blk_cell HZ2.out 1).trans rfl
        have x2 := (blk_cell HZ2.out 2).trans rfl
        have y0 := (blk_cell HY2.out 0).trans rfl
        have y1 := (blk_cell HY2.out 1).trans rfl
        have y2 := (blk_cell HY2.out 2).trans rfl
        go_wp2_with fail
        refine (HPC.out w2).mono ?_
        rintro en w3 ⟨rfl, hb⟩
        have HW3 := Aside0.mk (below_step HW2.out hb)
        clear hb HPC HW2 HZ2 HY2 x0 x1 x2 y0 y1 y2
        by_cases hX : X = 0
        · have n1 : (X != 0) = false := by simpa using hX
          have HU3 := Aside0.mk ((if_neg (fun h => h hX)).symm.trans HU2.out)
          clear hX HU2
          go_wp2_with fail
          go_roundg (a.length - (i + 1))
          case measure => have := HI.out; have := HI2.out; omega
          case rel => exact ⟨i + 1, by go_num, ⟨rfl, HI2.out.1, HI2.out.2⟩, HW3, HU3⟩
        · have n1 : (X != 0) = true := by simpa using hX
          have HU3 := Aside0.mk ((if_pos hX).symm.trans HU2.out)
          clear hX HU2
          go_wp2_with fail
          exact bodyPost_ret (v := .int .i64 X) (by simp [results, Tryd.results32, go_sem]) rfl ⟨by rw [HU3.out], HW3.out⟩
      · have t2 : decide (b.length ≤ i) = true := decide_eq_true (by omega)
        have HU2 := Aside0.mk (show R = 1 from by rw [← HU.out, List.drop_eq_getElem_cons hi, show b.drop i = [] from List.drop_eq_nil_of_le (by omega)]; rfl)
        obtain ⟨p, hp⟩ : ∃ p, a[i] = p := ⟨_, rfl⟩
        rw [hp] at p0 p1 p2
        cases ep
        clear hi hib hC hp HU
        obtain ⟨f0, f1, f2⟩ := p
        simp only at p0 p1 p2
        go_upto_region 4 with fail
        have HBB := below_alloc (Below.refl wr.heap.size wr) (.cells #[.bool f0, .int .u64 f1, .string f2] 45)
        have HW1 := Aside0.mk (below_step HW.out HBB)
        clear HBB p0 p1 p2 HW
        generalize wr.alloc (.cells #[.bool f0, .int .u64 f1, .string f2] 45) = w1 at HW1 ⊢
        go_wp2_with fail
        exact bodyPost_ret (v := .int .i64 1) (by simp [results, Tryd.results32, go_sem]) rfl ⟨by rw [HU2.out], HW1.out⟩
    · have t1 : decide (i < a.length) = false := decide_eq_false hi
      by_cases hib : i < b.length
      · have HU2 := Aside0.mk (show R = -1 from by rw [← HU.out, show a.drop i = [] from List.drop_eq_nil_of_le (by omega), List.drop_eq_getElem_cons hib]; rfl)
        have t2 : decide (a.length < b.length) = true := decide_eq_true (by have := HI.out; omega)
        clear hi hib HU
        go_wp2_with fail
        exact bodyPost_ret (v := .int .i64 (-1)) (by simp [results, Tryd.results32, go_sem]) rfl ⟨by rw [HU2.out], HW.out⟩
      · have HU2 := Aside0.mk (show R = 0 from by rw [← HU.out, show a.drop i = [] from List.drop_eq_nil_of_le (by omega), show b.drop i = [] from List.drop_eq_nil_of_le (by omega)]; rfl)
        have t2 : decide (a.length < b.length) = false := decide_eq_false (by have := HI.out; omega)
        clear hi hib HU
        go_wp2_with fail
        exact bodyPost_ret (v := .int .i64 0) (by simp [results, Tryd.results32, go_sem]) rfl ⟨by rw [HU2.out], HW.out⟩
set_option maxHeartbeats 8000000 in
set_option maxRecDepth 100000 in
theorem tcompare_calls {w : World} {A B : Option Addr} {c d : Nat} {a b : List S45} (h : k45.C w A a.length a) (hc : a.length ≤ c) (h2 : k45.C w B b.length b) (hd : b.length ≤ d) (ga : Good a) (gb : Good b) (ha : a.length ≤ 100000) (hb : b.length ≤ 100000) :
    Calls Tryd.prog 21 #[.slice A a.length c, .slice B b.length d] w fun e w' => e = .returned (.int .i64 (cmpL a b)) ∧ Below w.heap.size w w' := by
  have HC := Aside0.mk (cfunc_calls h hc h2 hd ga gb ha hb)
  obtain ⟨X, hX⟩ : ∃ X, cmpL a b = X := ⟨_, rfl⟩
  rw [hX] at HC
  rw [hX]
  clear hX h hc h2 hd ga gb ha hb
  go_enter Tryd.func21, Tryd.ntmps21
  go_wp2_with fail
  refine HC.out.mono ?_
  rintro en w1 ⟨rfl, hb⟩
  go_wp2_with fail
  exact bodyPost_ret (v := .int .i64 X) (by simp [results, Tryd.results21, go_sem]) rfl ⟨rfl, hb⟩
theorem rcompare_calls {w : World} {A B : Option Addr} {c d : Nat} {ma mb : List S59} (h : k59.C w A ma.length ma) (hc : ma.length ≤ c) (h2 : k59.C w B mb.length mb) (hd : mb.length ≤ d) {a b : List S45} (hma : a.map to59 = ma) (hmb : b.map to59 = mb) (ha : a.length ≤ 100000) (ho : ∀ p ∈ a, OkP p) :
    Calls Tryd.prog 22 #[.slice A ma.length c, .slice B mb.length d] w fun e w' => e = .returned (.int .i64 (cmpL a b)) ∧ Below w.heap.size w w' := by
  subst hma hmb
  obtain ⟨k, hk⟩ := (rcompare_ev a b ha (fun p hp => (ho p hp).2.2)).rounds
  exact sluicegateref37_Compare.calls k A c _ B d _ _ w h hc h2 hd hk
set_option maxHeartbeats 8000000 in
set_option maxRecDepth 100000 in
theorem stands_law {w : World} {A B : Option Addr} {c d : Nat} {a b : List S45} (h : k45.C w A a.length a) (hc : a.length ≤ c) (ha : Num64 a) (h2 : k45.C w B b.length b) (hd : b.length ≤ d) (hb : Num64 b) (hm : MaxL w) :
    Calls Tryd.prog 6 #[.slice A a.length c, .slice B b.length d] w (fun e w' => e = .returned (.bool true) ∧ Below w.heap.size w w') := by
  have HA := Aside0.mk h
  have HAC := Aside0.mk hc
  have HAN := Aside0.mk ha
  have HB := Aside0.mk h2
  have HBC := Aside0.mk hd
  have HBN := Aside0.mk hb
  have HM := Aside0.mk hm
  clear h hc ha h2 hd hb hm
  go_enter Tryd.func6, Tryd.ntmps6
  go_wp2_with fail
  refine (great_calls HA.out HAC.out HAN.out).mono ?_
  rintro en w1 ⟨ga, rfl, hga, hb1⟩
  have HW1 := Aside0.mk hb1
  have HA1 := Aside0.mk (Kd.C_below HA.out hb1)
  have HB1 := Aside0.mk (Kd.C_below HB.out hb1)
  clear hb1 HA HB
  cases ga with
  | true =>
    clear hga
    go_wp2_with fail
    refine (awake_calls (HM.out.below HW1.out)).mono ?_
    rintro en w2 ⟨rfl, hb⟩
    have HW2 := Aside0.mk (below_step HW1.out hb)
    clear hb
    go_wp2_with fail
    go_ret
    exact ⟨rfl, HW2.out⟩
  | false =>
    have HSA := Aside0.mk (hga rfl)
    clear hga
    go_wp2_with fail
    refine (great_calls HB1.out HBC.out HBN.out).mono ?_
    rintro en w2 ⟨gb, rfl, hgb, hb2⟩
    have HW2 := Aside0.mk (below_step HW1.out hb2)
    have HA2 := Aside0.mk (Kd.C_below HA1.out hb2)
    have HB2 := Aside0.mk (Kd.C_below HB1.out hb2)
    clear hb2 HA1 HB1 HW1
    cases gb with
    | true =>
      clear hgb
      go_wp2_with fail
      refine (awake_calls (HM.out.below HW2.out)).mono ?_
      rintro en w3 ⟨rfl, hb⟩
      have HW3 := Aside0.mk (below_step HW2.out hb)
      clear hb
      go_wp2_with fail
      go_ret
      exact ⟨rfl, HW3.out⟩
    | false =>
      have HSB := Aside0.mk (hgb rfl)
      have HAO := Aside0.mk (ok_of HAN.out HSA.out)
      have HBO := Aside0.mk (ok_of HBN.out HSB.out)
      have HAL := Aside0.mk HSA.out.1
      have HBL := Aside0.mk HSB.out.1
      clear hgb
      obtain ⟨ma, hma⟩ : ∃ m, a.map to59 = m := ⟨_, rfl⟩
      have HMA := Aside0.mk hma
      have HMAL := Aside0.mk (show ma.length = a.length from by rw [← hma, List.length_map])
      obtain ⟨mb, hmb⟩ : ∃ m, b.map to59 = m := ⟨_, rfl⟩
      have HMB := Aside0.mk hmb
      have HMBL := Aside0.mk (show mb.length = b.length from by rw [← hmb, List.length_map])
      clear hma hmb
      go_wp2_with fail
      refine (as_calls HA2.out HAC.out (by have := HAL.out; omega) HMA.out).mono ?_
      rintro en w3 ⟨A3, c3, rfl, hC3, hc3, hb⟩
      have HW3 := Aside0.mk (below_step HW2.out hb)
      have HA3 := Aside0.mk (Kd.C_below HA2.out hb)
      have HB3 := Aside0.mk (Kd.C_below HB2.out hb)
      have HD3 := Aside0.mk hC3
      have HDC := Aside0.mk hc3
      clear hb HW2 HA2 HB2 hC3 hc3
      go_wp2_with fail
      refine (may_calls HD3.out HDC.out HMA.out (by have := HAL.out; omega)).mono ?_
      rintro en w4 ⟨rfl, hb⟩
      have HW4 := Aside0.mk (below_step HW3.out hb)
      have HA4 := Aside0.mk (Kd.C_below HA3.out hb)
      have HB4 := Aside0.mk (Kd.C_below HB3.out hb)
      clear hb HW3 HA3 HB3 HD3 HDC
      cases hya : a.all mayP with
      | false =>
        clear hya
        go_wp2_with fail
        refine (awake_calls (HM.out.below HW4.out)).mono ?_
        rintro en w5 ⟨rfl, hb⟩
        have HW5 := Aside0.mk (below_step HW4.out hb)
        clear hb
        go_wp2_with fail
        go_ret
        exact ⟨rfl, HW5.out⟩
      | true =>
        have HYA := Aside0.mk hya
        clear hya
        go_wp2_with fail
        refine (as_calls HB4.out HBC.out (by have := HBL.out; omega) HMB.out).mono ?_
        rintro en w5 ⟨A5, c5, rfl, hC5, hc5, hb⟩
        have HW5 := Aside0.mk (below_step HW4.out hb)
        have HA5 := Aside0.mk (Kd.C_below HA4.out hb)
        have HB5 := Aside0.mk (Kd.C_below HB4.out hb)
        have HD5 := Aside0.mk hC5
        have HDC := Aside0.mk hc5
        clear hb HW4 HA4 HB4 hC5 hc5
        go_wp2_with fail
        refine (may_calls HD5.out HDC.out HMB.out (by have := HBL.out; omega)).mono ?_
        rintro en w6 ⟨rfl, hb⟩
        have HW6 := Aside0.mk (below_step HW5.out hb)
        have HA6 := Aside0.mk (Kd.C_below HA5.out hb)
        have HB6 := Aside0.mk (Kd.C_below HB5.out hb)
        clear hb HW5 HA5 HB5 HD5 HDC
        cases hyb : b.all mayP with
        | false =>
          clear hyb
          go_wp2_with fail
          refine (awake_calls (HM.out.below HW6.out)).mono ?_
          rintro en w7 ⟨rfl, hb⟩
          have HW7 := Aside0.mk (below_step HW6.out hb)
          clear hb
          go_wp2_with fail
          go_ret
          exact ⟨rfl, HW7.out⟩
        | true =>
          have HYB := Aside0.mk hyb
          clear hyb
          have HKA := Aside0.mk (show (strOfNums (enc a)).size ≤ 100000 from by rw [strOfNums_size]; exact enc_small HSA.out)
          have HVA := Aside0.mk (show keyV a = _ from if_pos HYA.out)
          have HVB := Aside0.mk (show keyV b = _ from if_pos HYB.out)
          have HCE := Aside0.mk (cb_enc (good_of HYA.out HAO.out) (good_of HYB.out HBO.out))
          rw [← encU_str, ← encU_str] at HCE
          generalize strOfNums (enc a) = ka at HVA HCE HKA
          generalize strOfNums (enc b) = kb at HVB HCE
          have HCZ := Aside0.mk (cmpL_zero (a := a) (b := b))
          have HRC := Aside0.mk (fun (W : World) (A B : Option Addr) (c d : Nat) (h : k59.C W A ma.length ma) (hc : ma.length ≤ c) (h2 : k59.C W B mb.length mb) (hd : mb.length ≤ d) => rcompare_calls h hc h2 hd HMA.out HMB.out (by have := HAL.out; omega) HAO.out)
          have HTC := Aside0.mk (fun (W : World) (h : k45.C W A a.length a) (h2 : k45.C W B b.length b) => tcompare_calls h HAC.out h2 HBC.out (good_of HYA.out HAO.out) (good_of HYB.out HBO.out) (by have := HAL.out; omega) (by have := HBL.out; omega))
          obtain ⟨X, hX⟩ : ∃ X, cmpL a b = X := ⟨_, rfl⟩
          rw [hX] at HCE HCZ
          simp only [hX] at HRC HTC
          clear hX
          go_wp2_with fail
          refine (key_calls HA6.out HAO.out (by have := HAL.out; omega) (HM.out.below HW6.out)).mono ?_
          rintro en w7 ⟨rfl, hb⟩
          have HW7 := Aside0.mk (below_step HW6.out hb)
          have HA7 := Aside0.mk (Kd.C_below HA6.out hb)
          have HB7 := Aside0.mk (Kd.C_below HB6.out hb)
          clear hb HW6 HA6 HB6
          rw [HVA.out]
          go_wp2_with fail
          refine (key_calls HB7.out HBO.out (by have := HBL.out; omega) (HM.out.below HW7.out)).mono ?_
          rintro en w8 ⟨rfl, hb⟩
          have HW8 := Aside0.mk (below_step HW7.out hb)
          have HA8 := Aside0.mk (Kd.C_below HA7.out hb)
          have HB8 := Aside0.mk (Kd.C_below HB7.out hb)
          clear hb HW7 HA7 HB7
          rw [HVB.out]
          go_wp2_with fail
          refine (HTC.out w8 HA8.out HB8.out).mono ?_
          rintro en w9 ⟨rfl, hb⟩
          have HW9 := Aside0.mk (below_step HW8.out hb)
          have HA9 := Aside0.mk (Kd.C_below HA8.out hb)
          have HB9 := Aside0.mk (Kd.C_below HB8.out hb)
          clear hb HW8 HA8 HB8 HTC
          go_wp2_with fail
          refine (as_calls HA9.out HAC.out (by have := HAL.out; omega) HMA.out).mono ?_
          rintro en wa ⟨Aa, ca, rfl, hCa, hca, hb⟩
          have HWa := Aside0.mk (below_step HW9.out hb)
          have HAa := Aside0.mk (Kd.C_below HA9.out hb)
          have HBa := Aside0.mk (Kd.C_below HB9.out hb)
          have HDa := Aside0.mk hCa
          have HDCa := Aside0.mk hca
          clear hb HW9 HA9 HB9 hCa hca
          go_wp2_with fail
          refine (as_calls HBa.out HBC.out (by have := HBL.out; omega) HMB.out).mono ?_
          rintro en wb ⟨Ab, cb, rfl, hCb, hcb, hb⟩
          have HWb := Aside0.mk (below_step HWa.out hb)
          have HAb := Aside0.mk (Kd.C_below HAa.out hb)
          have HBb := Aside0.mk (Kd.C_below HBa.out hb)
          have HDb := Aside0.mk (Kd.C_below HDa.out hb)
          have HEb := Aside0.mk hCb
          have HECb := Aside0.mk hcb
          clear hb HWa HAa HBa HDa hCb hcb
          go_wp2_with fail
          refine (HRC.out wb Aa Ab ca cb HDb.out HDCa.out HEb.out HECb.out).mono ?_
          rintro en wc ⟨rfl, hb⟩
          have HWc := Aside0.mk (below_step HWb.out hb)
          have HAc := Aside0.mk (Kd.C_below HAb.out hb)
          have HBc := Aside0.mk (Kd.C_below HBb.out hb)
          clear hb HWb HAb HBb HDb HEb HRC
          have k1 : ka.size ≤ 140737488355328 := by have := HKA.out; omega
          have HH := rcmp_calls ka kb k1 wc
          rw [HCE.out] at HH
          have HHH := Aside0.mk HH
          clear HH k1
          go_wp2_with fail
          refine HHH.out.mono ?_
          rintro en wd ⟨rfl, hb⟩
          have HWd := Aside0.mk (below_step HWc.out hb)
          have HAd := Aside0.mk (Kd.C_below HAc.out hb)
          have HBd := Aside0.mk (Kd.C_below HBc.out hb)
          clear hb HWc HAc HBc HHH
          go_wp2_with fail
          refine (tsame_calls HAd.out HAC.out HBd.out HBC.out (by have := HAL.out; omega)).mono ?_
          rintro en we ⟨r, rfl, hri, hb⟩
          have HWe := Aside0.mk (below_step HWd.out hb)
          have HR := Aside0.mk (show r = (X == 0) from by
            have h2 := HCZ.out
            by_cases h0 : X = 0
            · rw [hri.2 (h2.1 h0), beq_iff_eq.2 h0]
            · cases hr : r with
              | true => exact absurd (h2.2 (hri.1 hr)) h0
              | false => exact (beq_eq_false_iff_ne.2 h0).symm)
          clear hb hri HWd HAd HBd
          obtain rfl := HR.out
          clear HR
          cases h0 : (X == 0)
          all_goals
            go_wp2_with fail
            refine (awake_calls (HM.out.below HWe.out)).mono ?_
            rintro en wf ⟨rfl, hb⟩
            have HWf := Aside0.mk (below_step HWe.out hb)
            clear hb
            go_wp2_with fail
            go_ret
            exact ⟨rfl, HWf.out⟩
end Go.Proofs.YtdekhhimjnockaaDoor.Tu
