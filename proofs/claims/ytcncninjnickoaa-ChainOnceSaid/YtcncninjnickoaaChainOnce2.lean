/- ChainOnce: what the law's call comes to. -/
import Derived.Test.YtcncninjnickoaaChainOnce
namespace Go.Proofs.Ytcncninjnickoaa.Chain
open Go.RowKit Go.Proofs.YtcncninjnickoaaW.PrintWords Go.Proofs.YtcncninjnickoaaW.PrintLast Go.Proofs.YtcncninjnickoaaW.PrintMore
open Go.Proofs.Ytcncninjnickoaa Go.Proofs.Ytcncninjnickoaa.Ring Go.Proofs.Ytcncninjnickoaa.Vals
set_option linter.unusedVariables false
set_option linter.unusedSimpArgs false

abbrev MSet (w : World) (b n : Nat) (S : Int → Bool) : Prop := ISet Try.prog 3 4 w b n S
theorem zero_bool (W : World) : (zeroValue 4).run Try.prog W = .ok (.bool false) W := by kernel_rfl

def RowPost (w : World) (row : List Nat) (e : Ending) (w' : World) : Prop := ∃ v, e = .returned v ∧ Ints (ints row) v w' ∧ (∀ k, v.ownBlock = some k → w.heap.size ≤ k ∧ k < w'.heap.size) ∧ Below w.heap.size w w'
theorem row_any {w : World} {g h N : Nat} {row : List Nat} (hc : On w g h N row) : Calls Try.prog 8 #[.pointer (some ⟨g, 0, none⟩)] w (RowPost w row) := by
  by_cases hne : row = []
  · subst hne
    have hl := len_on hc
    refine (row_empty (v := .pointer (some ⟨g, 0, none⟩)) hl).mono ?_
    rintro e w' ⟨rfl, rfl⟩
    exact ⟨_, rfl, IsL.nil _ _, fun k hk => absurd (show (none : Option Nat) = some k from hk) (by simp), Below.refl _ _⟩
  · refine (row_on hc hne).mono ?_
    rintro e w' ⟨v, rfl, hR, hb⟩
    exact ⟨v, rfl, r_ints hR, fun k hk => ⟨Kd.R_base hR k hk, Kd.R_lt hR k hk⟩, hb⟩

theorem grown_of {w w' : World} {b : Nat} (h : Keeps (fun j => j = b) w w') : w.grownBy w' (some b) :=
  ⟨h.os, h.tape, h.output, h.size, fun k hk hn => h.block k hk (fun e => hn (by rw [e]))⟩
theorem keeps_from {B : Nat} {w w' : World} (h : Below B w w') : Keeps (fun k => B ≤ k) w w' :=
  ⟨h.os, h.tape, h.output, h.size, fun k hk hn => h.block k (by omega)⟩

/-- What stands by while the row is read: the chain, who was called, the two rows. -/
structure By (g h b n b2 B : Nat) (row was : List Nat) (S : Int → Bool) (v5 v8 : Value) (wx : World) : Prop where
  on : On wx g h 12 row
  set : MSet wx b n S
  row : Ints (ints row) v5 wx
  was : Ints (ints was) v8 wx
  f5 : ∀ k, v5.ownBlock = some k → k ≠ b2 ∧ k < B
  f8 : ∀ k, v8.ownBlock = some k → k ≠ b2 ∧ k < B
  fg : g ≠ b2 ∧ g < B ∧ h ≠ b2 ∧ h < B ∧ b ≠ b2 ∧ b < B
theorem By.keeps {g h b n b2 B : Nat} {row was : List Nat} {S : Int → Bool} {v5 v8 : Value} {wx wy : World} (hy : By g h b n b2 B row was S v5 v8 wx) {Q : Nat → Prop} (hk : Keeps Q wx wy) (hQ : ∀ k, Q k → k = b2 ∨ B ≤ k) : By g h b n b2 B row was S v5 v8 wy := by
  have hf := hy.fg
  refine ⟨hy.on.keeps hk (fun hq => ?_) (fun hq => ?_), hy.set.keeps hk (fun hq => ?_), ?_, ?_, hy.f5, hy.f8, hy.fg⟩
  · have := hQ _ hq; omega
  · have := hQ _ hq; omega
  · have := hQ _ hq; omega
  · exact IsL.keeps (w := wx) (w' := wy) (S := Q) (d := Kd.int .i64) (fun x cs h => h) hy.row hk (fun k hk h => by have := hQ _ h; have := hy.f5 k hk; omega)
  · exact IsL.keeps (w := wx) (w' := wy) (S := Q) (d := Kd.int .i64) (fun x cs h => h) hy.was hk (fun k hk h => by have := hQ _ h; have := hy.f8 k hk; omega)

theorem IsL.at_ {l : List Int} {A : Option Addr} {n c : Nat} {w : World} (h : Ints l (.slice A n c) w) {i : Nat} (hi : i < l.length) : ∃ ad, A = some ad ∧ w.cell? (ad.add i) = some (.int .i64 l[i]) := by
  obtain ⟨A', c', h1, _, hC⟩ := h
  cases h1
  obtain ⟨ad, h1, h2⟩ := Kd.at_int hC (i : Int) (by omega) (by omega)
  rw [Int.toNat_natCast] at h2
  refine ⟨ad, h1, h2.trans ?_⟩
  congr 2
  unfold rd
  rw [Int.toNat_natCast, List.getD_eq_getElem?_getD, List.getElem?_eq_getElem hi]
  rfl
theorem ints_append (p q : List Nat) : ints (p ++ q) = ints p ++ ints q := by simp [ints]
theorem seen_step (p : List Nat) (a : Nat) : (fun j => decide (j ∈ ints p) || decide (j = (a : Int))) = fun j => decide (j ∈ ints (p ++ [a])) := by
  funext j
  rw [ints_append, Bool.eq_iff_iff]
  simp [ints]
theorem ints_get (p t : List Nat) (a : Nat) : (ints (p ++ a :: t))[p.length]? = some (a : Int) := by
  simp [ints]
theorem filter_snoc_in {S : Int → Bool} {p : List Nat} {a : Nat} (h : S (a : Int) = false) : ints ((p ++ [a]).filter (fun y : Nat => !S (y : Int))) = ints (p.filter (fun y : Nat => !S (y : Int))) ++ [(a : Int)] := by
  rw [List.filter_append]
  simp [ints, h]
theorem filter_snoc_out {S : Int → Bool} {p : List Nat} {a : Nat} (h : S (a : Int) = true) : (p ++ [a]).filter (fun y : Nat => !S (y : Int)) = p.filter (fun y : Nat => !S (y : Int)) := by
  rw [List.filter_append]
  simp [h]
theorem wf_small {a : Nat} (h : a < 12) : (Lit.int .i64 (a : Int)).wf = true := by
  simp [Lit.wf, IntKind.min, IntKind.max, IntKind.signed, IntKind.bits]; omega

theorem filter_step {row row' was : List Nat} {S : Int → Bool} {i : Int} (h : row.filter (fun y : Nat => !S (y : Int)) = was.filter (fun y : Nat => !S (y : Int))) (ha : Alike i row row') :
    row'.filter (fun y : Nat => !(S (y : Int) || decide ((y : Int) = i))) = was.filter (fun y : Nat => !(S (y : Int) || decide ((y : Int) = i))) := by
  have e : ∀ l : List Nat, l.filter (fun y : Nat => !(S (y : Int) || decide ((y : Int) = i))) = (l.filter (fun y : Nat => decide ((y : Int) ≠ i))).filter (fun y : Nat => !S (y : Int)) := by
    intro l
    rw [List.filter_filter]
    apply List.filter_congr
    intro x _
    by_cases hx : (x : Int) = i <;> simp [hx]
  have e2 : ∀ l : List Nat, (l.filter (fun y : Nat => decide ((y : Int) ≠ i))).filter (fun y : Nat => !S (y : Int)) = (l.filter (fun y : Nat => !S (y : Int))).filter (fun y : Nat => decide ((y : Int) ≠ i)) := by
    intro l
    rw [List.filter_filter, List.filter_filter]
    apply List.filter_congr
    intro x _
    exact Bool.and_comm _ _
  rw [e, e, ha, e2, h, ← e2]

set_option maxHeartbeats 4000000 in
set_option maxRecDepth 100000 in
theorem once_calls (A0 : Option Addr) (c0 : Nat) (l : List (Int × Int)) (A1 : Option Addr) (c1 : Nat) (m : List (Int × Int)) (w : World) (hC : Kd.C kAct w A0 l.length l) (hc : l.length ≤ c0) (hD : Kd.C kAct w A1 m.length m) (hd : m.length ≤ c1) (hw : ∀ x ∈ m, (Lit.int .i64 x.2).wf = true) :
    Calls Try.prog 3 #[.slice A0 l.length c0, .slice A1 m.length c1] w fun e w' => e = .returned (.bool true) ∧ Below w.heap.size w w' := by
  have HL := Aside0.mk hC
  have HM := Aside0.mk hD
  have HW := Aside0.mk hw
  have hmm := @run_makeMap Try.prog
  clear hC hD hw
  go_enter Try.func3, Try.ntmps3
  go_wp2_with fail
  refine (new_in (N := 12) (by omega) (by omega)).mono ?_
  rintro e w1 ⟨g, h, f, rfl, hc, hr, hB, hg, hh⟩
  have HC := Aside0.mk (show On w1 g h 12 [] from ⟨f, hc, hr⟩)
  have HB := Aside0.mk hB
  have HGH := Aside0.mk (And.intro hg hh)
  clear hc hr hB hg hh
  go_wp2_with fail
  go_loopg [7] 61 (fun kq v7 w' => ∃ (i : Nat) (row : List Nat), v7 = .int .i64 (i : Int) ∧ Aside0 (kq = 61 - i ∧ i ≤ 60) ∧ Aside0 (On w' g h 12 row) ∧ Aside0 (Below w.heap.size w w'))
  case atStart => exact ⟨0, [], rfl, ⟨rfl, by omega⟩, HC, HB⟩
  case round =>
    clear HC HB
    obtain ⟨i, row, rfl, HI, HC, HB⟩ := hrel
    go_upto_region 5 with fail
    go_cut [35] from 28 to 43 (fun v35 wx => v35 = .bool (decide (i < l.length ∧ i < 60)) ∧ wx = wr)
    case first =>
      by_cases p1 : i < l.length
      · have g1 : decide ((i : Int) < (l.length : Int)) = true := decide_eq_true (by omega)
        by_cases p2 : i < 60
        · have g2 : decide ((i : Int) < 60) = true := decide_eq_true (by omega)
          go_wp2_with fail
          go_meet
          case rel => exact ⟨by rw [decide_eq_true (show i < l.length ∧ i < 60 from ⟨p1, p2⟩)], rfl⟩
        · have g2 : decide ((i : Int) < 60) = false := decide_eq_false (by omega)
          go_wp2_with fail
          go_meet
          case rel => exact ⟨by rw [decide_eq_false (show ¬ (i < l.length ∧ i < 60) from by omega)], rfl⟩
      · have g1 : decide ((i : Int) < (l.length : Int)) = false := decide_eq_false (by omega)
        go_wp2_with fail
        go_meet
        case rel => exact ⟨by rw [decide_eq_false (show ¬ (i < l.length ∧ i < 60) from by omega)], rfl⟩
    case rest =>
      obtain ⟨rfl, hw⟩ := hcut
      subst hw
      by_cases hgo : i < l.length ∧ i < 60
      · rw [decide_eq_true hgo]
        obtain ⟨hi, h60⟩ := hgo
        obtain ⟨ad, rfl, ca, cb⟩ := act_at (HL.out) hi hi
        have ca := (HB.out.cell (World.block_lt_of_cell? w _ ca)).trans ca
        have cb := (HB.out.cell (World.block_lt_of_cell? w _ cb)).trans cb
        have hi' : (i : Int) < (l.length : Int) := by omega
        obtain ⟨kind, hkind⟩ : ∃ kind, (l[i]).1 = kind := ⟨_, rfl⟩
        obtain ⟨k, hk⟩ : ∃ k, (l[i]).2 = k := ⟨_, rfl⟩
        rw [hkind] at ca
        rw [hk] at cb
        clear hkind hk
        go_wp2_with fail
        refine (step_calls HC.out kind k).mono ?_
        rintro e w2 ⟨⟨v, rfl⟩, row', h1, h2, h3⟩
        have HC2 := Aside0.mk h1
        have HB2 := Aside0.mk (later HB.out h3 HGH.out.1 HGH.out.2)
        clear h1 h2 h3
        go_wp2_with fail
        go_roundg (60 - i)
        case measure => have := HI.out; omega
        case rel => exact ⟨i + 1, row', by simp, ⟨by omega, by omega⟩, HC2, HB2⟩
      · rw [decide_eq_false hgo]
        clear hgo HI
        go_wp2_with fail
        refine (row_any HC.out).mono ?_
        rintro e w2 ⟨v8, rfl, ⟨A8, c8, rfl, hc8, hC8⟩, hn, hb⟩
        have hr : Ints (ints row) (.slice A8 (ints row).length c8) w2 := ⟨A8, c8, rfl, hc8, hC8⟩
        clear hc8 hC8
        have HWAS := Aside0.mk (hr.mono (below_alloc (Below.refl _ _) (.map #[] 0)))
        have HWN := Aside0.mk hn
        have HC2 := Aside0.mk (HC.out.below (below_alloc hb (.map #[] 0)))
        have HB2 := Aside0.mk (below_alloc (below_step HB.out hb) (.map #[] 0))
        have HS2 := Aside0.mk (ISet.made w2 Try.prog 3 4)
        have HG2 := Aside0.mk (HC.out.lt2)
        have HZ2 := Aside0.mk hb.size
        have HRL := Aside0.mk (On.le HC.out)
        have HRW0 := Aside0.mk (On.lt HC.out)
        clear hr hn hb HC HB
        obtain ⟨b, hb⟩ : ∃ b, w2.heap.size = b := ⟨_, rfl⟩
        rw [hb] at HS2
        have HBB := Aside0.mk (show g < b ∧ h < b ∧ w.heap.size ≤ b from by
          have h1 := HG2.out
          have h2 := HZ2.out
          have h3 := HGH.out
          omega)
        have HWF := Aside0.mk (show ∀ k, (Value.slice A8 (ints row).length c8).ownBlock = some k → k ≠ g ∧ k ≠ h ∧ k < b from fun k hk => by
          have h1 := HG2.out
          have h2 := HWN.out k hk
          omega)
        clear HG2 HZ2 HWN HL
        go_wp2_with fail
        clear hb
        go_loopg [10] 31 (fun kq v10 wx => ∃ (i : Nat) (row2 : List Nat) (S : Int → Bool), v10 = .int .i64 (i : Int) ∧ Aside0 (kq = 31 - i ∧ i ≤ 30) ∧ Aside0 (On wx g h 12 row2) ∧ Aside0 (MSet wx b i S) ∧ Aside0 (row2.filter (fun y : Nat => !S (y : Int)) = row.filter (fun y : Nat => !S (y : Int))) ∧ Aside0 (Ints (ints row) (.slice A8 (ints row).length c8) wx) ∧ Aside0 (Below w.heap.size w wx))
        case atStart => exact ⟨0, row, _, rfl, ⟨rfl, by omega⟩, HC2, HS2, ⟨rfl⟩, HWAS, HB2⟩
        case round =>
          clear HC2 HS2 HWAS HB2
          obtain ⟨i, row2, S, rfl, HI, HC, HS, HF, HWAS, HB⟩ := hrel
          go_upto_region 11 with fail
          go_cut [54] from 47 to 68 (fun v54 wx => v54 = .bool (decide (i < m.length ∧ i < 30)) ∧ wx = wr)
          case first =>
            by_cases p1 : i < m.length
            · have g1 : decide ((i : Int) < (m.length : Int)) = true := decide_eq_true (by omega)
              by_cases p2 : i < 30
              · have g2 : decide ((i : Int) < 30) = true := decide_eq_true (by omega)
                go_wp2_with fail
                go_meet
                case rel => exact ⟨by rw [decide_eq_true (show i < m.length ∧ i < 30 from ⟨p1, p2⟩)], rfl⟩
              · have g2 : decide ((i : Int) < 30) = false := decide_eq_false (by omega)
                go_wp2_with fail
                go_meet
                case rel => exact ⟨by rw [decide_eq_false (show ¬ (i < m.length ∧ i < 30) from by omega)], rfl⟩
            · have g1 : decide ((i : Int) < (m.length : Int)) = false := decide_eq_false (by omega)
              go_wp2_with fail
              go_meet
              case rel => exact ⟨by rw [decide_eq_false (show ¬ (i < m.length ∧ i < 30) from by omega)], rfl⟩
          case rest =>
            obtain ⟨rfl, hw⟩ := hcut
            subst hw
            by_cases hgo : i < m.length ∧ i < 30
            · rw [decide_eq_true hgo]
              obtain ⟨hi, h30⟩ := hgo
              obtain ⟨ad, rfl, ca, cb⟩ := act_at (HM.out) hi hi
              have cb0 := Aside0.mk cb
              have ca := (HB.out.cell (World.block_lt_of_cell? w _ ca)).trans ca
              have cb := (HB.out.cell (World.block_lt_of_cell? w _ cb)).trans cb
              have hwf := HW.out _ (List.getElem_mem hi)
              have hi' : (i : Int) < (m.length : Int) := by omega
              obtain ⟨kind, hkind⟩ : ∃ kind, (m[i]).1 = kind := ⟨_, rfl⟩
              obtain ⟨k, hk⟩ : ∃ k, (m[i]).2 = k := ⟨_, rfl⟩
              rw [hkind] at ca
              rw [hk] at cb cb0 hwf
              have HWK := Aside0.mk hwf
              clear hkind hk hwf
              go_wp2_with fail
              refine (step_calls HC.out kind k).mono ?_
              rintro e w3 ⟨⟨v, rfl⟩, row', h1, h2, h3⟩
              have hb3 := later HB.out h3 HGH.out.1 HGH.out.2
              have HC2 := Aside0.mk h1
              have HAL := Aside0.mk h2
              have HB2 := Aside0.mk hb3
              have HS2 := Aside0.mk (HS.out.keeps h3 (fun hq => by have := HBB.out; rcases hq with hq | hq <;> omega))
              have HW2 := Aside0.mk (IsL.keeps (w := wc) (w' := w3) (S := SetOf g h) (d := Kd.int .i64) (fun x cs h => h) HWAS.out h3 (fun q hq hs => by have := HWF.out q hq; rcases hs with hs | hs <;> omega))
              have cb := (hb3.cell (World.block_lt_of_cell? w _ cb0.out)).trans cb0.out
              clear h1 h2 h3 hb3 ca HC HB HS HWAS
              go_wp2_with (at_mapUpdate; refine wpList_iset_put _ rfl _ _ _ 32 rfl 3 4 Try.underlying32 Try.underlying3 Try.underlying4 b i S HS2.out (by unfold maxLen; omega) k HWK.out rfl rfl rfl ?_; intro w4 hs hk)
              have HS4 := Aside0.mk hs
              have HC4 := Aside0.mk (HC2.out.keeps hk (fun hq => by have := HBB.out; omega) (fun hq => by have := HBB.out; omega))
              have HW4 := Aside0.mk (IsL.keeps (w := w3) (w' := w4) (S := fun j => j = b) (d := Kd.int .i64) (fun x cs h => h) HW2.out hk (fun q hq hs => by have := HWF.out q hq; omega))
              have HB4 := Aside0.mk (Keeps.below_then HB2.out (Nat.le_refl _) hk (fun i hi => by have := HBB.out; omega))
              clear hs hk HS2 HC2 HW2 HB2
              go_wp2_with fail
              go_roundg (30 - i)
              case measure => have := HI.out; omega
              case rel => exact ⟨i + 1, row', _, by simp, ⟨by omega, by omega⟩, HC4, HS4, ⟨filter_step HF.out HAL.out⟩, HW4, HB4⟩
            · rw [decide_eq_false hgo]
              clear hgo HI
              have HRN := Aside0.mk (fun w5 (hb5 : Below wc.heap.size wc w5) => row_any (HC.out.below hb5))
              go_wp2_with fail
              refine (HRN.out _ (below_alloc (Below.refl _ _) _)).mono ?_
              rintro e w5 ⟨v5, rfl, ⟨A5, c5, rfl, hc5, hC5⟩, hn, hb⟩
              have hr : Ints (ints row2) (.slice A5 (ints row2).length c5) w5 := ⟨A5, c5, rfl, hc5, hC5⟩
              have hb5 : Below wc.heap.size wc w5 := below_step (below_alloc (Below.refl _ _) _) hb
              have hz := hb.size
              rw [size_alloc'] at hz
              have HB5 := Aside0.mk (below_step HB.out hb5)
              have HZ := Aside0.mk hz
              have HS5 := Aside0.mk ((ISet.made wc Try.prog 3 4).below hb)
              obtain ⟨b2, hb2⟩ : ∃ b2, wc.heap.size = b2 := ⟨_, rfl⟩
              obtain ⟨B, hB⟩ : ∃ B, w5.heap.size = B := ⟨_, rfl⟩
              have hbs := HS.out.lt
              have hgl := HC.out.lt2
              have HBY := Aside0.mk (show By g h b i b2 B row2 row S (.slice A5 (ints row2).length c5) (.slice A8 (ints row).length c8) w5 from by
                have h1 := HBB.out
                rw [hb2] at hz hbs hgl
                rw [hB] at hz
                refine ⟨HC.out.below hb5, HS.out.below hb5, hr, HWAS.out.mono hb5, fun k hk => ?_, fun k hk => ?_, ?_⟩
                · have h3 := hn k hk
                  rw [size_alloc', hb2, hB] at h3
                  omega
                · have h3 := HWF.out k hk
                  omega
                · omega)
              have HBZ := Aside0.mk (show b2 < B ∧ w.heap.size ≤ b2 ∧ w.heap.size ≤ B from by
                have h1 := HBB.out
                rw [hb2] at hz hbs
                rw [hB] at hz
                omega)
              rw [hb2] at HS5
              have HNZ := Aside0.mk (show B ≤ w5.heap.size from by omega)
              have HLT := Aside0.mk (On.lt HC.out)
              have HND := Aside0.mk (On.nodup HC.out)
              have HFF := HF
              clear hr hb5 hz hB hn hb hc5 hC5 HC HB HS HWAS HZ HRN hbs hgl HF HWF HW HM
              go_wp2_with fail
              clear hb2
              go_loopg [12, 73] (row2.length + 1) (fun kq v12 v73 wx => ∃ (p q : List Nat), v73 = .int .i64 (p.length : Int) ∧ Aside0 (row2 = p ++ q ∧ kq = q.length + 1) ∧ Aside0 (Kd.R (Kd.int .i64) 3 wx B (fun _ => True) v12 (ints (p.filter (fun y : Nat => !S (y : Int))))) ∧ Aside0 (MSet wx b2 p.length (fun j => decide (j ∈ ints p))) ∧ Aside0 (By g h b i b2 B row2 row S (.slice A5 (ints row2).length c5) (.slice A8 (ints row).length c8) wx) ∧ Aside0 (B ≤ wx.heap.size) ∧ Aside0 (Below w.heap.size w wx))
              case atStart => exact ⟨[], row2, rfl, ⟨rfl, rfl⟩, ⟨Kd.R_nil _ _ _ _ _⟩, HS5, HBY, HNZ, HB5⟩
              case round =>
                clear HS5 HBY HNZ HB5
                obtain ⟨p, q, rfl, HP, HR, HS, HBY, HNZ, HB⟩ := hrel
                cases q with
                | nil =>
                  have hpe : p = row2 := by have := HP.out.1; rw [List.append_nil] at this; exact this.symm
                  subst hpe
                  have d1 : decide ((p.length : Int) < ((ints p).length : Int)) = false := decide_eq_false (by rw [ints_len]; omega)
                  have d2 : decide (p.length < (ints p).length) = false := decide_eq_false (by rw [ints_len]; omega)
                  obtain ⟨wd, rfl⟩ : ∃ wd : World, wd = wr := ⟨_, rfl⟩
                  have H12 := Aside0.mk (r_ints HR.out)
                  have HB4 := Aside0.mk (Below.refl wd.heap.size wd)
                  have HNW := Aside0.mk (HBY.out.set)
                  have HRW := Aside0.mk (HBY.out.was)
                  have HL12 := Aside0.mk (length_le HND.out HLT.out)
                  clear HR HS
                  go_wp2_with fail
                  go_loopg [15, 99] (row.length + 1) (fun kq v15 v99 wx => ∃ (p4 q4 : List Nat), v99 = .int .i64 (p4.length : Int) ∧ Aside0 (row = p4 ++ q4 ∧ kq = q4.length + 1) ∧ Aside0 (Kd.R (Kd.int .i64) 3 wx wd.heap.size (fun _ => True) v15 (ints (p4.filter (fun y : Nat => !S (y : Int))))) ∧ Aside0 (Below wd.heap.size wd wx))
                  case atStart => exact ⟨[], row, rfl, ⟨rfl, rfl⟩, ⟨Kd.R_nil _ _ _ _ _⟩, HB4⟩
                  case round =>
                    clear HB4
                    obtain ⟨p4, q4, rfl, HP4, HR4, HB4⟩ := hrel
                    cases q4 with
                    | nil =>
                      have hpe : p4 = row := by have := HP4.out.1; rw [List.append_nil] at this; exact this.symm
                      subst hpe
                      have d1 : decide ((p4.length : Int) < ((ints p4).length : Int)) = false := decide_eq_false (by rw [ints_len]; omega)
                      have d2 : decide (p4.length < (ints p4).length) = false := decide_eq_false (by rw [ints_len]; omega)
                      have hsame := same_calls (w := wr) (H12.out.mono HB4.out) (r_ints HR4.out) (by rw [ints_len]; exact Nat.lt_of_le_of_lt (List.length_filter_le _ _) (by have := HL12.out; omega))
                      rw [decide_eq_true (by rw [HFF.out])] at hsame
                      have HSM := Aside0.mk hsame
                      clear hsame
                      go_wp2_with fail
                      refine HSM.out.mono ?_
                      rintro e w8 ⟨rfl, hb⟩
                      have HB8 := Aside0.mk (below_step (Keeps.below_then HB.out (Nat.le_refl _) (keeps_from HB4.out) (fun i hi => Nat.le_trans HB.out.size hi)) hb)
                      clear hb
                      go_wp2_with fail
                      refine (awake_calls _).mono ?_
                      rintro e w9 ⟨rfl, hb⟩
                      have HB9 := Aside0.mk (below_step HB8.out hb)
                      clear hb
                      go_wp2_with fail
                      go_ret
                      exact ⟨by simp, HB9.out⟩
                    | cons a t =>
                      have hP := HP4.out.1
                      have hplt : p4.length < (ints row).length := by rw [ints_len, hP]; simp
                      have ha : a < 12 := HRW0.out a (by rw [hP]; simp)
                      have hpl : p4.length < 4096 := by
                        have h1 := HRL.out
                        rw [hP] at h1
                        simp only [List.length_append, List.length_cons] at h1
                        omega
                      obtain ⟨ad, rfl, hcell⟩ := IsL.at_ (HRW.out.mono HB4.out) hplt
                      have hget : (ints row)[p4.length] = (a : Int) := by
                        have := List.getElem?_eq_getElem hplt
                        have h2 := ints_get p4 t a
                        rw [← hP, this] at h2
                        exact Option.some.inj h2
                      rw [hget] at hcell
                      have d1 : decide ((p4.length : Int) < ((ints row).length : Int)) = true := decide_eq_true (by omega)
                      have d2 : decide (p4.length < (ints row).length) = true := decide_eq_true hplt
                      have hs1 := (HNW.out.below HB4.out).get (t := 32) Try.underlying3 Try.underlying32 Try.underlying4 (zero_bool wr) (a : Int) (wf_small ha)
                      clear hP hget
                      by_cases hS : S (a : Int) = true
                      · rw [hS] at hs1
                        go_wp2_with fail
                        go_roundg (t.length + 1)
                        case measure =>
                          have := HP4.out.2
                          simp only [List.length_cons] at this
                          omega
                        case rel =>
                          refine ⟨p4 ++ [a], t, by simp, ⟨by rw [HP4.out.1]; simp, rfl⟩, ⟨?_⟩, HB4⟩
                          rw [filter_snoc_out hS]
                          exact HR4.out
                      · have hS : S (a : Int) = false := by simpa using hS
                        rw [hS] at hs1
                        have hpf : (p4.filter (fun y : Nat => !S (y : Int))).length < 4096 := Nat.lt_of_le_of_lt (List.length_filter_le _ _) hpl
                        go_wp2_with (first | (at_builtin; refine Kd.R_append (Kd.int .i64) (w0 := wd) wd.heap.size rfl (.tmp 107) (.tmp 109) 30 3 (.int .i64 0) 8 rfl Try.underlying30 info_int rfl (by decide) (by omega) u15 (ints (p4.filter (fun y : Nat => !S (y : Int)))) (a : Int) [.int .i64 (a : Int)] (fun _ => True) (fun _ => False) rfl rfl ?aP (fun _ hk => hk.elim) ?aF ?aO ?aB ?aS ?aL ?_; (case aP => exact rfl); (case aB => exact HB4.out); (case aF => exact (fun _ _ => trivial)); (case aO => exact HR4.out); (case aS => exact HB4.out.size); (case aL => rw [ints_len]; omega); intro v112 w9 ho hb hg hat; have HO2 := Aside0.mk ho; have HB9 := Aside0.mk hb; clear ho hb hg hat))
                        go_wp2_with fail
                        go_roundg (t.length + 1)
                        case measure =>
                          have := HP4.out.2
                          simp only [List.length_cons] at this
                          omega
                        case rel =>
                          refine ⟨p4 ++ [a], t, by simp, ⟨by rw [HP4.out.1]; simp, rfl⟩, ⟨?_⟩, HB9⟩
                          rw [filter_snoc_in hS]
                          exact HO2.out
                | cons a t =>
                  have hP := HP.out.1
                  have ha : a < 12 := HLT.out a (by rw [hP]; simp)
                  have hap : ¬ ((a : Int) ∈ ints p) := by
                    have h1 := HND.out
                    rw [hP] at h1
                    intro h2
                    rw [mem_ints] at h2
                    exact (List.nodup_append.1 h1).2.2 a h2 a (by simp) rfl
                  have hpl : p.length < 12 := by
                    have h1 := length_le HND.out HLT.out
                    rw [hP] at h1
                    simp only [List.length_append, List.length_cons] at h1
                    omega
                  have hplt : p.length < (ints row2).length := by rw [ints_len, hP]; simp
                  obtain ⟨ad, rfl, hcell⟩ := IsL.at_ HBY.out.row hplt
                  have hget : (ints row2)[p.length] = (a : Int) := by
                    have := List.getElem?_eq_getElem hplt
                    have h2 := ints_get p t a
                    rw [← hP, this] at h2
                    exact Option.some.inj h2
                  rw [hget] at hcell
                  have d1 : decide ((p.length : Int) < ((ints row2).length : Int)) = true := decide_eq_true (by omega)
                  have d2 : decide (p.length < (ints row2).length) = true := decide_eq_true hplt
                  have hwf := wf_small ha
                  have hs2 := HS.out.get (t := 32) Try.underlying3 Try.underlying32 Try.underlying4 (zero_bool wr) (a : Int) hwf
                  have hd2 : decide ((a : Int) ∈ ints p) = false := decide_eq_false hap
                  rw [hd2] at hs2
                  have hhas := has_in HBY.out.on (i := a) ha
                  rw [decide_eq_true (show a ∈ row2 by rw [hP]; simp)] at hhas
                  have HH := Aside0.mk hhas
                  have HWF2 := Aside0.mk hwf
                  clear hhas hd2 hap hP hget hwf
                  by_cases hS : S (a : Int) = true
                  · go_wp2_with fail
                    refine HH.out.mono ?_
                    rintro e w' ⟨rfl, rfl⟩
                    go_wp2_with (first | (at_mapUpdate; refine wpList_iset_put _ rfl _ _ _ 32 rfl 3 4 Try.underlying32 Try.underlying3 Try.underlying4 b2 p.length _ HS.out (by unfold maxLen; omega) (a : Int) HWF2.out rfl rfl rfl ?_; intro w6 hs hk; have HS6 := Aside0.mk hs; have HK6 := Aside0.mk hk; have HY6 := Aside0.mk (HBY.out.keeps hk (fun k h => Or.inl h)); have hs1 := HY6.out.set.get (t := 32) Try.underlying3 Try.underlying32 Try.underlying4 (zero_bool w6) (a : Int) HWF2.out; rw [hS] at hs1; clear hs hk))
                    go_roundg (t.length + 1)
                    case measure =>
                      have := HP.out.2
                      simp only [List.length_cons] at this
                      omega
                    case rel =>
                      refine ⟨p ++ [a], t, by simp, ⟨by rw [HP.out.1]; simp, rfl⟩, ⟨?_⟩, ⟨?_⟩, HY6, ⟨Nat.le_trans HNZ.out HK6.out.size⟩, ⟨Keeps.below_then HB.out (Nat.le_refl _) HK6.out (fun i hi => by have := HBZ.out; omega)⟩⟩
                      · rw [filter_snoc_out hS]
                        exact Kd.R_grown1 HR.out rfl (grown_of HK6.out) (fun h => by have h1 := Kd.R_base HR.out b2 h.symm; have h2 := HBZ.out; omega)
                      · rw [List.length_append, ← seen_step]
                        exact HS6.out
                  · have hS : S (a : Int) = false := by simpa using hS
                    have hpf : (p.filter (fun y : Nat => !S (y : Int))).length < 12 := Nat.lt_of_le_of_lt (List.length_filter_le _ _) hpl
                    go_wp2_with fail
                    refine HH.out.mono ?_
                    rintro e w' ⟨rfl, rfl⟩
                    go_wp2_with (first | (at_mapUpdate; refine wpList_iset_put _ rfl _ _ _ 32 rfl 3 4 Try.underlying32 Try.underlying3 Try.underlying4 b2 p.length _ HS.out (by unfold maxLen; omega) (a : Int) HWF2.out rfl rfl rfl ?_; intro w6 hs hk; have HS6 := Aside0.mk hs; have HK6 := Aside0.mk hk; have HY6 := Aside0.mk (HBY.out.keeps hk (fun k h => Or.inl h)); have hs1 := HY6.out.set.get (t := 32) Try.underlying3 Try.underlying32 Try.underlying4 (zero_bool w6) (a : Int) HWF2.out; rw [hS] at hs1; clear hs hk) | (at_builtin; have HR6 := Aside0.mk (Kd.R_grown1 HR.out rfl (grown_of HK6.out) (fun h => by have h1 := Kd.R_base HR.out b2 h.symm; have h2 := HBZ.out; omega)); have HN6 := Aside0.mk (Nat.le_trans HNZ.out HK6.out.size); refine Kd.R_append (Kd.int .i64) (w0 := w6) B rfl (.tmp 92) (.tmp 94) 30 3 (.int .i64 0) 8 rfl Try.underlying30 info_int rfl (by decide) (by omega) u12 (ints (p.filter (fun y : Nat => !S (y : Int)))) (a : Int) [.int .i64 (a : Int)] (fun _ => True) (fun _ => False) rfl rfl ?aP (fun _ hk => hk.elim) ?aF ?aO ?aB ?aS ?aL ?_; (case aP => exact rfl); (case aB => exact Below.refl _ _); (case aF => exact (fun _ _ => trivial)); (case aO => exact HR6.out); (case aS => exact HN6.out); (case aL => rw [ints_len]; omega); intro v112 w9 ho hb hg hat; have HO2 := Aside0.mk ho; have HB9 := Aside0.mk hb; clear ho hb hg hat))
                    go_wp2_with fail
                    have HK9 := Aside0.mk (keeps_from HB9.out)
                    go_roundg (t.length + 1)
                    case measure =>
                      have := HP.out.2
                      simp only [List.length_cons] at this
                      omega
                    case rel =>
                      refine ⟨p ++ [a], t, by simp, ⟨by rw [HP.out.1]; simp, rfl⟩, ⟨?_⟩, ⟨?_⟩, ⟨HY6.out.keeps HK9.out (fun k h => Or.inr h)⟩, ⟨Nat.le_trans HN6.out HK9.out.size⟩, ⟨Keeps.below_then (Keeps.below_then HB.out (Nat.le_refl _) HK6.out (fun i hi => by have := HBZ.out; omega)) (Nat.le_refl _) HK9.out (fun i hi => by have := HBZ.out; have : B ≤ i := hi; omega)⟩⟩
                      · rw [filter_snoc_in hS]
                        exact HO2.out
                      · rw [List.length_append, ← seen_step]
                        exact HS6.out.keeps HK9.out (fun h => by have := HBZ.out; omega)
end Go.Proofs.Ytcncninjnickoaa.Chain
