/- WordBack: what the law's call comes to. -/
import Derived.Test.YtceaddpbebaldaaWordPuts
import Derived.Test.YtceaddpbebaldaaWordStands
import Derived.Deep.Cut
import Derived.Deep.CutRange
import Derived.Deep.CutBlock
import Derived.Deep.QuietTactic
import Derived.BigQuiet
import Derived.StillTailTactics
namespace Go.Proofs.Ytceaddpbebaldaa.Word
open Go.RowKit Go.Proofs.YtceaddpbebaldaaW.PrintWords Go.Proofs.YtceaddpbebaldaaW.PrintLast Go.Proofs.YtceaddpbebaldaaW.PrintMore
open Go.Proofs.Ytceaddpbebaldaa Go.Proofs.Ytceaddpbebaldaa.Vals
set_option linter.unusedVariables false
set_option linter.unusedSimpArgs false

/-- The bytes of the numbers, each of its width, one behind the other. -/
def cat : List (Int × Int) → List Int
  | [] => []
  | p :: t => be (wd p.2) p.1 ++ cat t
theorem cat_append (a b : List (Int × Int)) : cat (a ++ b) = cat a ++ cat b := by
  induction a with
  | nil => rfl
  | cons p t ih => simp [cat, ih]
theorem cat_snoc (a : List (Int × Int)) (x c : Int) : cat (a ++ [(x, c)]) = cat a ++ be (wd c) x := by
  rw [cat_append]; simp [cat]
theorem wd_le (c : Int) : wd c ≤ 8 := by
  unfold wd
  repeat' split
  all_goals omega
theorem cat_len (a : List (Int × Int)) : (cat a).length ≤ 8 * a.length := by
  induction a with
  | nil => simp [cat]
  | cons p t ih =>
    have := wd_le p.2
    simp only [cat, List.length_append, be_len, List.length_cons]
    omega
theorem byte_be (k : Nat) (x : Int) : Byte (be k x) := by
  induction k with
  | zero => exact Byte.nil
  | succ k ih =>
    intro c hc
    simp only [be, List.mem_cons] at hc
    rcases hc with rfl | hc
    · omega
    · exact ih c hc
theorem byte_cat (a : List (Int × Int)) : Byte (cat a) := by
  induction a with
  | nil => exact Byte.nil
  | cons p t ih =>
    intro c hc
    rcases List.mem_append.1 hc with h | h
    · exact byte_be _ _ c h
    · exact ih c h

theorem u8s_at {w : World} {A : Option Addr} {n : Nat} {k : IntKind} {xs : List Int} (h : (Kd.int k).C w A n xs) {i : Nat} (hi : i < n) (hx : i < xs.length) : ∃ ad, A = some ad ∧ w.cell? (ad.add i) = some (.int k xs[i]) := by
  obtain ⟨ad, h1, h2⟩ := Kd.at_int h (i : Int) (by omega) (by omega)
  rw [Int.toNat_natCast] at h2
  exact ⟨ad, h1, h2.trans (by rw [rd_lt hx])⟩

/-- The place of a width, by a number: its address, and what it holds. -/
theorem width_at (g : Nat) (c : Int) (hc : 0 ≤ c) {W : World} (hg : W.heap[g]? = some (.cells #[.int .i64 1, .int .i64 2, .int .i64 4, .int .i64 8] 30 (0, 0))) :
    0 ≤ c.tmod 4 ∧ c.tmod 4 < 4 ∧ W.cell? ⟨g, (c.tmod 4).toNat, none⟩ = some (.int .i64 ((wd c : Nat) : Int)) := by
  rw [Int.tmod_eq_emod_of_nonneg hc]
  have hr : c % 4 = 0 ∨ c % 4 = 1 ∨ c % 4 = 2 ∨ c % 4 = 3 := by omega
  refine ⟨by omega, by omega, ?_⟩
  rcases hr with h | h | h | h
  · rw [show wd c = 1 from by simp [wd, h], h]; exact (blk_cell hg 0).trans rfl
  · rw [show wd c = 2 from by simp [wd, h], h]; exact (blk_cell hg 1).trans rfl
  · rw [show wd c = 4 from by simp [wd, h], h]; exact (blk_cell hg 2).trans rfl
  · rw [show wd c = 8 from by simp [wd, h], h]; exact (blk_cell hg 3).trans rfl
theorem zip_take {l ws : List Int} {i : Nat} (h1 : i < l.length) (h2 : i < ws.length) : (l.zip ws).take (i + 1) = (l.zip ws).take i ++ [(l[i], ws[i])] := by
  have h : i < (l.zip ws).length := by rw [List.length_zip]; omega
  rw [List.take_succ_eq_append_getElem h, List.getElem_zip]
theorem put_wd {w : World} {v : Value} {bs : List Int} (h : Bys bs v w) (hl : bs.length ≤ 140737488351232) {x : Int} (c : Int) (hx : 0 ≤ x) (hx2 : x < 18446744073709551616) : Calls Try.prog 9 #[v, .int .i64 ((wd c : Nat) : Int), .int .u64 x] w fun e w' => ∃ v', e = .returned v' ∧ Bys (bs ++ be (wd c) x) v' w' ∧ Below w.heap.size w w' := by
  have := put_any (n := ((wd c : Nat) : Int)) h hl hx hx2
  unfold anyBe at this
  rw [if_pos (wd_wide c), Int.toNat_natCast] at this
  exact this

theorem raw_be (n : Nat) (x : Int) (rest : List Int) : rawO (be n x ++ rest) 0 (n : Int) = be n x ∧ rawB (be n x ++ rest) 0 (n : Int) = rest ∧ rawE (be n x ++ rest) 0 (n : Int) = 0 := by
  have h1 : ¬ ((n : Int) < 0) := by omega
  have h2 : ¬ (((be n x ++ rest).length : Int) < (n : Int)) := by
    rw [List.length_append, be_len]; omega
  unfold rawO rawB rawE
  simp only [ne_eq, not_true_eq_false, if_false]
  rw [if_neg h1, if_neg h2, if_neg h1, if_neg h2, if_neg h1, if_neg h2, Int.toNat_natCast]
  refine ⟨?_, ?_, rfl⟩
  · rw [List.take_append_of_le_length (by rw [be_len]; exact Nat.le_refl _), List.take_of_length_le (by rw [be_len]; exact Nat.le_refl _)]
  · rw [List.drop_append_of_le_length (by rw [be_len]; exact Nat.le_refl _), List.drop_of_length_le (by rw [be_len]; exact Nat.le_refl _), List.nil_append]
theorem num_fits {c x : Int} (hx : 0 ≤ x) (hf : fits ((wd c : Nat) : Int) x) : num (be (wd c) x) = x := by
  obtain ⟨X, rfl⟩ := Int.eq_ofNat_of_zero_le hx
  have e1 := hf.2
  rw [Int.toNat_natCast] at e1
  have p1 : X < 2 ^ (8 * wd c) := by
    have : ((X : Nat) : Int) < ((2 ^ (8 * wd c) : Nat) : Int) := by rw [Int.natCast_pow]; exact e1
    exact Int.ofNat_lt.1 this
  rw [num_be, Nat.mod_eq_of_lt p1]
theorem drop_take_cons {l ws : List Int} {i j : Nat} (h1 : j < l.length) (h2 : j < ws.length) (hj : j < i) : ((l.zip ws).take i).drop j = (l[j], ws[j]) :: ((l.zip ws).take i).drop (j + 1) := by
  have h : j < ((l.zip ws).take i).length := by rw [List.length_take, List.length_zip]; omega
  rw [List.drop_eq_getElem_cons h, List.getElem_take, List.getElem_zip]

set_option maxHeartbeats 4000000 in
set_option maxRecDepth 100000 in
theorem back_calls (A0 : Option Addr) (c0 : Nat) (l : List Int) (A1 : Option Addr) (c1 : Nat) (ws : List Int) (w : World) (hC : (Kd.int .u64).C w A0 l.length l) (hc : l.length ≤ c0) (hD : (Kd.int .u8).C w A1 ws.length ws) (hd : ws.length ≤ c1)
    (hl : ∀ x ∈ l, 0 ≤ x ∧ x < 18446744073709551616) (hw : ∀ c ∈ ws, 0 ≤ c ∧ c ≤ 255) :
    Calls Try.prog 5 #[.slice A0 l.length c0, .slice A1 ws.length c1] w fun e w' => e = .returned (.bool true) ∧ Below w.heap.size w w' := by
  have HL := Aside0.mk hC
  have HM := Aside0.mk hD
  have HXL := Aside0.mk hl
  have HXW := Aside0.mk hw
  clear hC hD hl hw
  have hmin : ∀ i : Nat, i < (l.zip ws).length ↔ (i < l.length ∧ i < ws.length) := fun i => by rw [List.length_zip]; omega
  have HMIN := Aside0.mk hmin
  clear hmin
  generalize hzp : l.zip ws = zp at HMIN
  have HZP := Aside0.mk hzp
  clear hzp
  go_enter Try.func5, Try.ntmps5
  go_wp2_with fail
  have HG0 := Aside0.mk (blk_new w (.cells #[.int .i64 1, .int .i64 2, .int .i64 4, .int .i64 8] 30))
  have HB0 := Aside0.mk (below_alloc (Below.refl w.heap.size w) (.cells #[.int .i64 1, .int .i64 2, .int .i64 4, .int .i64 8] 30))
  go_loopg [5, 7] 101 (fun kq v5 v7 wx => ∃ (i : Nat) (A : Option Addr) (cc : Nat), v7 = .int .i64 (i : Int) ∧ v5 = .slice A (cat (zp.take i)).length cc ∧ Aside0 (kq = 101 - i ∧ i ≤ 100 ∧ i ≤ zp.length) ∧ Aside0 (Bys (cat (zp.take i)) (.slice A (cat (zp.take i)).length cc) wx) ∧ Aside0 (wx.heap[w.heap.size]? = some (.cells #[.int .i64 1, .int .i64 2, .int .i64 4, .int .i64 8] 30 (0, 0))) ∧ Aside0 (Below w.heap.size w wx))
  case atStart => exact ⟨0, none, 0, rfl, rfl, ⟨rfl, by omega, by omega⟩, ⟨IsL.nil _ _⟩, HG0, HB0⟩
  case round =>
    clear HG0 HB0
    obtain ⟨i, A, cc, rfl, rfl, HI0, HV, HG, HB⟩ := hrel
    go_upto_region 4 with fail
    go_cut [25] from 12 to 40 (fun v25 wx => v25 = .bool (decide (i < zp.length ∧ i < 100)) ∧ wx = wr)
    case first =>
      by_cases p1 : i < l.length
      · have g1 : decide ((i : Int) < (l.length : Int)) = true := decide_eq_true (by omega)
        by_cases p2 : i < ws.length
        · have g2 : decide ((i : Int) < (ws.length : Int)) = true := decide_eq_true (by omega)
          by_cases p3 : i < 100
          · have g3 : decide ((i : Int) < 100) = true := decide_eq_true (by omega)
            go_wp2_with fail
            go_meet
            case rel => exact ⟨by rw [decide_eq_true (show i < zp.length ∧ i < 100 from ⟨(HMIN.out i).2 ⟨p1, p2⟩, p3⟩)], rfl⟩
          · have g3 : decide ((i : Int) < 100) = false := decide_eq_false (by omega)
            go_wp2_with fail
            go_meet
            case rel => exact ⟨by rw [decide_eq_false (show ¬ (i < zp.length ∧ i < 100) from fun h => p3 h.2)], rfl⟩
        · have g2 : decide ((i : Int) < (ws.length : Int)) = false := decide_eq_false (by omega)
          go_wp2_with fail
          go_meet
          case rel => exact ⟨by rw [decide_eq_false (show ¬ (i < zp.length ∧ i < 100) from fun h => p2 ((HMIN.out i).1 h.1).2)], rfl⟩
      · have g1 : decide ((i : Int) < (l.length : Int)) = false := decide_eq_false (by omega)
        go_wp2_with fail
        go_meet
        case rel => exact ⟨by rw [decide_eq_false (show ¬ (i < zp.length ∧ i < 100) from fun h => p1 ((HMIN.out i).1 h.1).1)], rfl⟩
    case rest =>
      obtain ⟨rfl, hw⟩ := hcut
      subst hw
      by_cases hgo : i < zp.length ∧ i < 100
      · rw [decide_eq_true hgo]
        obtain ⟨hz, h100⟩ := hgo
        obtain ⟨hi, hi2⟩ := (HMIN.out i).1 hz
        obtain ⟨ad0, rfl, cx⟩ := u8s_at HL.out hi hi
        obtain ⟨ad1, rfl, cw⟩ := u8s_at HM.out hi2 hi2
        have hxr := HXL.out _ (List.getElem_mem hi)
        have hcr := HXW.out _ (List.getElem_mem hi2)
        have htk := zip_take hi hi2
        rw [HZP.out] at htk
        obtain ⟨x, hx⟩ : ∃ x, l[i] = x := ⟨_, rfl⟩
        obtain ⟨c, hc'⟩ : ∃ c, ws[i] = c := ⟨_, rfl⟩
        rw [hx] at cx hxr htk
        rw [hc'] at cw hcr htk
        have HTK := Aside0.mk htk
        have HCX := Aside0.mk ((HB.out.cell (World.block_lt_of_cell? w _ cx)).trans cx)
        have HCW := Aside0.mk ((HB.out.cell (World.block_lt_of_cell? w _ cw)).trans cw)
        obtain ⟨hm1, hm2, hca⟩ := width_at w.heap.size c hcr.1 HG.out
        have hcl : (cat (zp.take i)).length ≤ 800 := by
          have h1 := cat_len (zp.take i)
          have h2 := List.length_take_le i zp
          omega
        have HPUT := Aside0.mk (fun w1 (hb : Below wc.heap.size wc w1) => put_wd (HV.out.mono hb) (by omega) (x := x) c hxr.1 hxr.2)
        have hi' : (i : Int) < (l.length : Int) := by omega
        have hi2' : (i : Int) < (ws.length : Int) := by omega
        have hcx : wc.drew.cell? _ = _ := HCX.out
        have hcw : wc.drew.cell? _ = _ := HCW.out
        have hca2 : wc.drew.cell? _ = _ := hca
        have HPUT2 := Aside0.mk (HPUT.out wc.drew (pw_below_drewN (Below.refl _ _) 1))
        have HPUT := HPUT2
        have HB2 := Aside0.mk (show Below w.heap.size w wc.drew from below_step HB.out (pw_below_drewN (Below.refl _ _) 1))
        have HG2 := Aside0.mk (show wc.drew.heap[w.heap.size]? = _ from HG.out)
        clear hx hc' cx cw hxr htk hcl hca hcr HV
        go_wp2_with fail
        refine wp_region_still_tail 12 (by kernel_rfl) (by kernel_rfl) ?_
        simp only [List.take_succ_cons, List.take_zero, List.drop_succ_cons, List.drop_zero]
        have ew : ({ heap := wc.heap, tape := wc.tape, drawn := wc.drawn + 1, os := wc.os, output := wc.output } : World) = wc.drew := rfl
        rw [ew]
        clear ew
        clear HPUT2
        generalize wc.drew = wq at hcx hcw hca2 HPUT HB2 HG2 ⊢
        repeat still_step
        refine wpStill_nil ?_
        clear hm1 hm2 hcx hcw hca2
        go_wp2_with fail
        refine HPUT.out.mono ?_
        rintro e w2 ⟨v2, rfl, ⟨A2, c2, rfl, hc2, hC2⟩, hb⟩
        have HV2 := Aside0.mk (show Bys (cat (zp.take i) ++ be (wd c) x) (.slice A2 (cat (zp.take i) ++ be (wd c) x).length c2) w2 from ⟨A2, c2, rfl, hc2, hC2⟩)
        rw [← cat_snoc, ← HTK.out] at HV2 ⊢
        have HB3 := Aside0.mk (below_step HB2.out hb)
        have HG3 := Aside0.mk (blk_below HG2.out hb)
        clear hb hc2 hC2 HPUT HB2 HG2
        go_wp2_with fail
        go_roundg (100 - i)
        case measure => have := HI0.out; omega
        case rel => exact ⟨i + 1, A2, c2, by simp, rfl, ⟨by omega, by omega, hz⟩, HV2, HG3, HB3⟩
      · rw [decide_eq_false hgo]
        have hbs := byte_cat (zp.take i)
        have hcl : (cat (zp.take i)).length ≤ 800 := by
          have h1 := cat_len (zp.take i)
          have h2 := List.length_take_le i zp
          have h3 := HI0.out
          omega
        have HOP := Aside0.mk (open_calls HV.out (by omega))
        have HGO := Aside0.mk hgo
        have HALT := Aside0.mk (blk_lt HG.out)
        clear hgo hbs hcl HV
        go_wp2_with fail
        refine HOP.out.mono ?_
        rintro en w2 ⟨g, rfl, hr, hb, hg⟩
        have HR2 := Aside0.mk hr
        have HB2 := Aside0.mk (below_step HB.out hb)
        have HG2 := Aside0.mk (blk_below HG.out hb)
        have HGG := Aside0.mk (show w.heap.size < g from Nat.lt_of_lt_of_le HALT.out hg)
        clear hr hb hg HB HG HOP HALT
        go_wp2_with fail
        go_loopg [9, 10] 101 (fun kq v9 v10 wx => ∃ (j : Nat), v9 = .int .i64 (j : Int) ∧ Aside0 (kq = 101 - j ∧ j ≤ i) ∧ Aside0 (Rd wx g (cat ((zp.take i).drop j)) 0) ∧ Aside0 (wx.heap[w.heap.size]? = some (.cells #[.int .i64 1, .int .i64 2, .int .i64 4, .int .i64 8] 30 (0, 0))) ∧ Aside0 (Below w.heap.size w wx))
        case atStart => exact ⟨0, rfl, ⟨rfl, by omega⟩, HR2, HG2, HB2⟩
        case round =>
          clear HR2 HG2 HB2
          obtain ⟨j, rfl, HJ, HR, HG, HB⟩ := hrel
          go_upto_region 11 with fail
          go_cut [58] from 45 to 89 (fun v58 wx => v58 = .bool (decide (j < zp.length ∧ j < 100)) ∧ wx = wr)
          case first =>
            by_cases p1 : j < l.length
            · have g1 : decide ((j : Int) < (l.length : Int)) = true := decide_eq_true (by omega)
              by_cases p2 : j < ws.length
              · have g2 : decide ((j : Int) < (ws.length : Int)) = true := decide_eq_true (by omega)
                by_cases p3 : j < 100
                · have g3 : decide ((j : Int) < 100) = true := decide_eq_true (by omega)
                  go_wp2_with fail
                  go_meet
                  case rel => exact ⟨by rw [decide_eq_true (show j < zp.length ∧ j < 100 from ⟨(HMIN.out j).2 ⟨p1, p2⟩, p3⟩)], rfl⟩
                · have g3 : decide ((j : Int) < 100) = false := decide_eq_false (by omega)
                  go_wp2_with fail
                  go_meet
                  case rel => exact ⟨by rw [decide_eq_false (show ¬ (j < zp.length ∧ j < 100) from fun h => p3 h.2)], rfl⟩
              · have g2 : decide ((j : Int) < (ws.length : Int)) = false := decide_eq_false (by omega)
                go_wp2_with fail
                go_meet
                case rel => exact ⟨by rw [decide_eq_false (show ¬ (j < zp.length ∧ j < 100) from fun h => p2 ((HMIN.out j).1 h.1).2)], rfl⟩
            · have g1 : decide ((j : Int) < (l.length : Int)) = false := decide_eq_false (by omega)
              go_wp2_with fail
              go_meet
              case rel => exact ⟨by rw [decide_eq_false (show ¬ (j < zp.length ∧ j < 100) from fun h => p1 ((HMIN.out j).1 h.1).1)], rfl⟩
          case rest =>
            obtain ⟨rfl, hw⟩ := hcut
            subst hw
            by_cases hgj : j < zp.length ∧ j < 100
            · rw [decide_eq_true hgj]
              have hji : j < i := by
                have h1 := HJ.out.2
                have h2 := HGO.out
                rcases Nat.lt_or_ge j i with h | h
                · exact h
                · have : j = i := by omega
                  subst this
                  exact absurd hgj h2
              obtain ⟨hz, h100⟩ := hgj
              obtain ⟨hi, hi2⟩ := (HMIN.out j).1 hz
              obtain ⟨ad0, rfl, cx⟩ := u8s_at HL.out hi hi
              obtain ⟨ad1, rfl, cw⟩ := u8s_at HM.out hi2 hi2
              have hxr := HXL.out _ (List.getElem_mem hi)
              have hcr := HXW.out _ (List.getElem_mem hi2)
              have htk := drop_take_cons hi hi2 hji
              rw [HZP.out] at htk
              obtain ⟨x, hx⟩ : ∃ x, l[j] = x := ⟨_, rfl⟩
              obtain ⟨c, hc'⟩ : ∃ c, ws[j] = c := ⟨_, rfl⟩
              rw [hx] at cx hxr htk
              rw [hc'] at cw hcr htk
              have hrd := HR.out
              rw [htk] at hrd
              have hrd : Rd wc g (be (wd c) x ++ cat ((zp.take i).drop (j + 1))) 0 := hrd
              have hby : Byte (be (wd c) x ++ cat ((zp.take i).drop (j + 1))) := fun b hb => by
                rcases List.mem_append.1 hb with h | h
                · exact byte_be _ _ b h
                · exact byte_cat _ b h
              have hnum := num_wide hrd hby (wd_wide c)
              obtain ⟨r1, r2, r3⟩ := raw_be (wd c) x (cat ((zp.take i).drop (j + 1)))
              rw [r1, r2, r3] at hnum
              have HNUM := Aside0.mk hnum
              have HCX := Aside0.mk cx
              have HCW := Aside0.mk cw
              have hcx := (HB.out.cell (World.block_lt_of_cell? w _ cx)).trans cx
              have hcw := (HB.out.cell (World.block_lt_of_cell? w _ cw)).trans cw
              obtain ⟨hm1, hm2, hca⟩ := width_at w.heap.size c hcr.1 HG.out
              have hi' : (j : Int) < (l.length : Int) := by omega
              have hi2' : (j : Int) < (ws.length : Int) := by omega
              have HCR := Aside0.mk hcr
              have HXR := Aside0.mk hxr
              clear hx hc' cx cw hxr htk hcr hrd hby hnum r1 r2 r3
              go_wp2_with fail
              refine HNUM.out.mono ?_
              rintro en w3 ⟨rfl, hr, hk⟩
              have HR3 := Aside0.mk hr
              have HB3 := Aside0.mk (Keeps.below_then HB.out (Nat.le_refl _) hk (fun k hk => by have := HGG.out; have h2 : k = g := hk; omega))
              have HG3 := Aside0.mk (hk.blk HG.out (fun h => by have := HGG.out; omega))
              clear hr hk hcx hcw hca HG HB HR
              have hcx := (HB3.out.cell (World.block_lt_of_cell? w _ HCX.out)).trans HCX.out
              have hcw := (HB3.out.cell (World.block_lt_of_cell? w _ HCW.out)).trans HCW.out
              obtain ⟨_, _, hca⟩ := width_at w.heap.size c HCR.out.1 HG3.out
              have hft := fits_calls ((wd c : Nat) : Int) x HXR.out.1 HXR.out.2
              by_cases hf : fits ((wd c : Nat) : Int) x
              · rw [decide_eq_true hf] at hft
                rw [num_fits HXR.out.1 hf]
                have HF := Aside0.mk hft
                clear hft hf HNUM
                go_wp2_with fail
                go_quiet ((go_at_call 12; exact Calls.quiet_of_same ((HF.out _).mono fun _ _ h => ⟨h.1, h.2.symm⟩)))
                have HB4 := Aside0.mk (show Below w.heap.size w (w3.drewN nq) from below_step HB3.out (pw_below_drewN (Below.refl _ _) nq))
                have HG4 := Aside0.mk (show (w3.drewN nq).heap[w.heap.size]? = _ from HG3.out)
                have HR4 := Aside0.mk (HR3.out.below (pw_below_drewN (Below.refl _ _) nq))
                clear hcx hcw hca HB3 HG3 HR3
                go_wp2_with fail
                go_roundg (100 - j)
                case measure => have := HJ.out; omega
                case rel => exact ⟨j + 1, by simp, ⟨by omega, by omega⟩, HR4, HG4, HB4⟩
              · rw [decide_eq_false hf] at hft
                have HF := Aside0.mk hft
                clear hft hf HNUM
                go_wp2_with fail
                go_quiet ((go_at_call 12; exact Calls.quiet_of_same ((HF.out _).mono fun _ _ h => ⟨h.1, h.2.symm⟩)))
                have HB4 := Aside0.mk (show Below w.heap.size w (w3.drewN nq) from below_step HB3.out (pw_below_drewN (Below.refl _ _) nq))
                have HG4 := Aside0.mk (show (w3.drewN nq).heap[w.heap.size]? = _ from HG3.out)
                have HR4 := Aside0.mk (HR3.out.below (pw_below_drewN (Below.refl _ _) nq))
                clear hcx hcw hca HB3 HG3 HR3
                go_wp2_with fail
                go_roundg (100 - j)
                case measure => have := HJ.out; omega
                case rel => exact ⟨j + 1, by simp, ⟨by omega, by omega⟩, HR4, HG4, HB4⟩
            · rw [decide_eq_false hgj]
              have hj : j = i := by
                have h1 := HJ.out.2
                have h2 := HGO.out
                rcases Nat.lt_or_ge j i with h | h
                · exact absurd ⟨by have := HI0.out; omega, by have := HI0.out; omega⟩ hgj
                · omega
              subst hj
              have hrd := HR.out
              have hnil : (zp.take j).drop j = [] := by
                apply List.drop_of_length_le
                rw [List.length_take]; omega
              rw [hnil] at hrd
              have hend := end_calls hrd
              rw [if_pos rfl, if_pos (show cat [] = [] from rfl)] at hend
              have HE := Aside0.mk hend
              clear hrd hnil hend hgj
              go_wp2_with fail
              refine HE.out.mono ?_
              rintro en w4 ⟨rfl, rfl⟩
              go_wp2_with fail
              refine (awake_calls _).mono ?_
              rintro en w5 ⟨rfl, hb⟩
              have HB5 := Aside0.mk (below_step HB.out hb)
              clear hb
              go_wp2_with fail
              go_ret
              exact ⟨by simp, HB5.out⟩
end Go.Proofs.Ytceaddpbebaldaa.Word
