/- ChainPlays: what the law's call comes to. -/
import Derived.Test.YtcncninjnickoaaChainAwake
import Derived.Test.YtcncninjnickoaaKeptL
import Derived.Deep.Cut
import Derived.Deep.CutRange
import Derived.Deep.CutBlock
namespace Go.Proofs.Ytcncninjnickoaa.Chain
open Go.RowKit Go.Proofs.YtcncninjnickoaaW.PrintWords Go.Proofs.YtcncninjnickoaaW.PrintLast Go.Proofs.YtcncninjnickoaaW.PrintMore
open Go.Proofs.Ytcncninjnickoaa Go.Proofs.Ytcncninjnickoaa.Ring Go.Proofs.Ytcncninjnickoaa.Vals
set_option linter.unusedVariables false
set_option linter.unusedSimpArgs false

abbrev kAct : Kd (Int × Int) := Kd.pair (Kd.int .i64) (Kd.int .i64)
theorem act_at {w : World} {A : Option Addr} {n : Nat} {xs : List (Int × Int)} (h : Kd.C kAct w A n xs) {i : Nat} (hi : i < n) (hx : i < xs.length) :
    ∃ ad, A = some ad ∧ w.cell? (ad.add (i * 2)) = some (.int .i64 (xs[i]).1) ∧ w.cell? ⟨(ad.add (i * 2)).block, (ad.add (i * 2)).off + 1, none⟩ = some (.int .i64 (xs[i]).2) := by
  obtain ⟨ad, c, e, _, hK, hc0⟩ := Kd.C_get h ((0, 0) : Int × Int) (i : Int) (by omega) (by omega)
  rw [Int.toNat_natCast, List.getD_eq_getElem?_getD, List.getElem?_eq_getElem hx] at hK
  obtain ⟨c0, c1, rfl, h0, h1⟩ := hK
  have h0 : c0 = [Value.int .i64 (xs[i]).1] := h0
  have h1 : c1 = [Value.int .i64 (xs[i]).2] := h1
  subst h0; subst h1
  have hc : ∀ (j : Nat) (u : Value), ([Value.int .i64 (xs[i]).1] ++ [Value.int .i64 (xs[i]).2])[j]? = some u → w.cell? (ad.add (i * 2 + j)) = some u := fun j u hj => by
    have := hc0 j u hj
    rw [Int.toNat_natCast] at this
    exact this
  exact ⟨ad, e, hc 0 _ rfl, by rw [← add_field _ _ 1 (by omega)]; exact hc 1 _ rfl⟩

theorem ints_erase {row : List Nat} (hn : row.Nodup) (k : Nat) : (ints row).filter (fun y => decide (y ≠ (k : Int))) = ints (row.erase k) := by
  unfold ints
  rw [List.filter_map, hn.erase_eq_filter]
  congr 1
  apply List.filter_congr
  intro x _
  by_cases e : x = k
  · subst e; simp
  · have : ¬ ((x : Int) = (k : Int)) := by omega
    simp [e, this]
theorem ints_cons (k : Nat) (row : List Nat) : (k : Int) :: ints row = ints (k :: row) := rfl
theorem ints_snoc (k : Nat) (row : List Nat) : ints row ++ [(k : Int)] = ints (row ++ [k]) := by simp [ints]
theorem ints_len (row : List Nat) : (ints row).length = row.length := by simp [ints]
theorem mem_ints {k : Nat} {row : List Nat} : (k : Int) ∈ ints row ↔ k ∈ row := by
  simp only [ints, List.mem_map]
  constructor
  · rintro ⟨x, hx, e⟩
    have : x = k := Int.ofNat.inj e
    exact this ▸ hx
  · intro h; exact ⟨k, h, rfl⟩

theorem On.nodup {w : World} {g h N : Nat} {row : List Nat} (hc : On w g h N row) : row.Nodup := by
  obtain ⟨f, hc, hr⟩ := hc; exact hr.nodup
theorem On.lt {w : World} {g h N : Nat} {row : List Nat} (hc : On w g h N row) : ∀ x ∈ row, x < N := by
  obtain ⟨f, hc, hr⟩ := hc; exact hr.lt

theorem has_any {w : World} {g h N : Nat} {row : List Nat} (hc : On w g h N row) (x : Int) : Calls Try.prog 9 #[.pointer (some ⟨g, 0, none⟩), .int .i64 x] w fun e w' => e = .returned (.bool (decide (x ∈ ints row))) ∧ w = w' := by
  by_cases hx : x < 0 ∨ (N : Int) ≤ x
  · have : decide (x ∈ ints row) = false := by
      rw [decide_eq_false_iff_not]
      intro h
      simp only [ints, List.mem_map] at h
      obtain ⟨y, hy, rfl⟩ := h
      have := hc.lt y hy
      rcases hx with hx | hx
      · exact absurd hx (by simp)
      · have : (N : Int) ≤ (y : Int) := hx
        omega
    rw [this]
    exact has_out hc hx
  · obtain ⟨k, rfl⟩ := Int.eq_ofNat_of_zero_le (by omega : 0 ≤ x)
    have := has_in hc (i := k) (by omega)
    rw [show decide ((k : Int) ∈ ints row) = decide (k ∈ row) from by simp [mem_ints]]
    exact this

def Far (g h : Nat) (v : Value) : Prop := ∀ k, v.ownBlock = some k → k ≠ g ∧ k ≠ h
theorem Far.new {g h B : Nat} {v : Value} (hg : g < B) (hh : h < B) (hv : ∀ k, v.ownBlock = some k → B ≤ k) : Far g h v := fun k hk => by
  have := hv k hk
  omega
theorem On.lt2 {w : World} {g h N : Nat} {row : List Nat} (hc : On w g h N row) : g < w.heap.size ∧ h < w.heap.size := by
  obtain ⟨f, hc, hr⟩ := hc; exact hc.lt
theorem stay {w w' : World} {g h : Nat} {l : List Int} {v : Value} (h1 : Ints l v w) (hk : Keeps (SetOf g h) w w') (hf : Far g h v) : Ints l v w' :=
  IsL.keeps (w := w) (w' := w') (S := SetOf g h) (d := Kd.int .i64) (fun x cs h => h) h1 hk (fun k hk h => by
    have := hf k hk
    rcases h with h | h
    · exact this.1 h
    · exact this.2 h)

theorem undef_bool {b : Bool} (h : some undef = some (Value.bool b)) : False := by cases h
theorem rd_last {a b : Nat} {t t' : List Nat} (h : a :: t = t' ++ [b]) : rd (ints (a :: t)) ((t.length : Nat) : Int) = (b : Int) := by
  have hl : t.length = t'.length := by
    have := congrArg List.length h
    simpa using this
  rw [h, hl]
  simp [rd, ints]
theorem same_self {w : World} {v1 v2 : Value} {l : List Int} (h1 : Ints l v1 w) (h2 : Ints l v2 w) (hl : l.length < 1099511627776) : Calls Try.prog 10 #[v1, v2] w fun e w' => e = .returned (.bool true) ∧ Below w.heap.size w w' := by
  have := same_calls h1 h2 hl
  rwa [decide_eq_true rfl] at this

set_option maxHeartbeats 4000000 in
set_option maxRecDepth 100000 in
theorem plays_in (N : Nat) (h1 : 1 ≤ N) (h2 : N ≤ 4096) (A0 : Option Addr) (c0 : Nat) (l : List (Int × Int)) (ask : Int) (w : World) (hC : Kd.C kAct w A0 l.length l) (hc : l.length ≤ c0) (hl : l.length ≤ 140737488351232) :
    Calls Try.prog 4 #[.int .i64 (N : Int), .slice A0 l.length c0, .int .i64 ask] w fun e w' => e = .returned (.bool true) ∧ Below w.heap.size w w' := by
  have HL := Aside0.mk hC
  have q1 : ¬ ((N : Int) < 1) := by omega
  have q2 : ¬ (4096 < (N : Int)) := by omega
  clear hC
  go_enter Try.func4, Try.ntmps4
  go_wp2_with fail
  refine (new_in h1 h2).mono ?_
  rintro e w1 ⟨g, h, f, rfl, hc, hr, hB, hg, hh⟩
  have HC := Aside0.mk (show On w1 g h N [] from ⟨f, hc, hr⟩)
  have HB := Aside0.mk hB
  clear hc hr hB
  go_wp2_with fail
  go_loopg [9, 10] 81 (fun kq v9 v10 w' => ∃ (i : Nat) (row : List Nat), v10 = .int .i64 (i : Int) ∧ Aside0 (kq = 81 - i ∧ i ≤ 80 ∧ i ≤ l.length) ∧ Aside0 (Ints (ints row) v9 w') ∧ Aside0 (Far g h v9) ∧ Aside0 (On w' g h N row) ∧ Aside0 (Below w.heap.size w w'))
  case atStart => exact ⟨0, [], rfl, ⟨rfl, by omega, by omega⟩, ⟨IsL.mk (xs := ints []) (by simp [ints]) ⟨rfl, by simp [ints], fun h => absurd h (by simp [ints])⟩⟩, ⟨Far.new HC.out.lt2.1 HC.out.lt2.2 (fun k hk => Nat.le_of_eq (Option.some.inj hk))⟩, ⟨HC.out.below (below_alloc (Below.refl _ _) _)⟩, ⟨below_alloc HB.out _⟩⟩
  case round =>
    clear HC HB
    obtain ⟨i, row, rfl, HI, HR, HF, HC, HB⟩ := hrel
    by_cases hend : i < l.length ∧ i < 80
    rotate_left
    · have HAW := Aside0.mk (awake_calls wr)
      have d1 : (decide ((i : Int) < (l.length : Int)) && decide ((i : Int) < 80)) = false := by
        rw [Bool.and_eq_false_iff, decide_eq_false_iff_not, decide_eq_false_iff_not]
        omega
      by_cases hi : i < l.length
      · have d2 : decide ((i : Int) < (l.length : Int)) = true := decide_eq_true (by omega)
        have d3 : decide ((i : Int) < 80) = false := decide_eq_false (by omega)
        clear d1
        go_wp2_with fail
        refine HAW.out.mono ?_
        rintro e w2 ⟨rfl, hb⟩
        have HB2 := Aside0.mk (below_step HB.out hb)
        clear hb
        go_wp2_with fail
        go_ret
        exact ⟨by simp, HB2.out⟩
      · have d2 : decide ((i : Int) < (l.length : Int)) = false := decide_eq_false (by omega)
        clear d1
        go_wp2_with fail
        refine HAW.out.mono ?_
        rintro e w2 ⟨rfl, hb⟩
        have HB2 := Aside0.mk (below_step HB.out hb)
        clear hb
        go_wp2_with fail
        go_ret
        exact ⟨by simp, HB2.out⟩
    · obtain ⟨hi, h80⟩ := hend
      have hi' : (i : Int) < (l.length : Int) := by omega
      have d2 : decide ((i : Int) < (l.length : Int)) = true := decide_eq_true (by omega)
      have d3 : decide ((i : Int) < 80) = true := decide_eq_true (by omega)
      obtain ⟨ad, rfl, ca, cb⟩ := act_at (HL.out) hi hi
      have ca := (HB.out.cell (World.block_lt_of_cell? w _ ca)).trans ca
      have cb := (HB.out.cell (World.block_lt_of_cell? w _ cb)).trans cb
      obtain ⟨kind, hkind⟩ : ∃ kind, (l[i]).1 = kind := ⟨_, rfl⟩
      obtain ⟨k, hk⟩ : ∃ k, (l[i]).2 = k := ⟨_, rfl⟩
      rw [hkind] at ca
      rw [hk] at cb
      clear hkind hk
      go_upto_region 11 with fail
      go_cut [12] from 46 to 188 (fun v12 wx => v12 = .bool (decide (0 ≤ k ∧ k < (N : Int))) ∧ wx = wr)
      case first =>
        by_cases p1 : 0 ≤ k
        · have g1 : decide ((0 : Int) ≤ k) = true := decide_eq_true p1
          by_cases p2 : k < (N : Int)
          · have g2 : decide (k < (N : Int)) = true := decide_eq_true p2
            go_wp2_with fail
            go_meet
            case rel => exact ⟨by rw [decide_eq_true (show 0 ≤ k ∧ k < (N : Int) from ⟨p1, p2⟩)], rfl⟩
          · have g2 : decide (k < (N : Int)) = false := decide_eq_false p2
            go_wp2_with fail
            go_meet
            case rel => exact ⟨by rw [decide_eq_false (show ¬ (0 ≤ k ∧ k < (N : Int)) from by omega)], rfl⟩
        · have g1 : decide ((0 : Int) ≤ k) = false := decide_eq_false p1
          go_wp2_with fail
          go_meet
          case rel => exact ⟨by rw [decide_eq_false (show ¬ (0 ≤ k ∧ k < (N : Int)) from by omega)], rfl⟩
      case rest =>
        obtain ⟨rfl, hw⟩ := hcut
        subst hw
        obtain ⟨th, hth⟩ : ∃ th, decide (0 ≤ k ∧ k < (N : Int)) = th := ⟨_, rfl⟩
        rw [hth]
        have HTHB := Aside0.mk hth
        clear hth
        go_upto_if 69 with fail
        go_cut [13] from 46 to 188 (fun v13 wx => v13 = .int .i64 (bif th then 0 else 4) ∧ wx = wc)
        case first =>
          cases th
          · go_wp2_with fail
            go_meet
            case rel => exact ⟨rfl, rfl⟩
          · go_wp2_with fail
            go_meet
            case rel => exact ⟨rfl, rfl⟩
        case rest =>
          obtain ⟨rfl, hw⟩ := hcut
          subst hw
          obtain ⟨e0, he0⟩ : ∃ e0 : Int, (bif th then 0 else 4) = e0 := ⟨_, rfl⟩
          rw [he0]
          go_upto_block 2 with fail
          go_cut [9, 13, 14] from 46 to 188 (fun v9 v13 v14 wx => ∃ (row' : List Nat) (e : Int), v13 = .int .i64 e ∧ v14 = .int .i64 e ∧ Aside0 (Ints (ints row') v9 wx) ∧ Aside0 (Far g h v9) ∧ Aside0 (On wx g h N row') ∧ Aside0 (Below w.heap.size w wx))
          case first =>
            by_cases hin : 0 ≤ k ∧ k < (N : Int)
            · have hth := HTHB.out
              rw [decide_eq_true hin] at hth
              subst hth
              simp only [cond_true] at he0
              subst he0
              obtain ⟨κ, rfl⟩ := Int.eq_ofNat_of_zero_le hin.1
              have hκ : κ < N := by omega
              clear hin HTHB
              by_cases q0 : kind = 0
              · subst q0
                as_aux_lemma =>
                  go_wp2_with fail
                  refine (front_in HC.out (i := κ) hκ).mono ?_
                  rintro e w2 ⟨rfl, hc2, hk2⟩
                  have HC2 := Aside0.mk hc2
                  have HB2 := Aside0.mk (later HB.out hk2 hg hh)
                  have HR2 := Aside0.mk (stay HR.out hk2 HF.out)
                  clear hc2 hk2
                  go_wp2_with fail
                  refine (rfront_calls HR2.out (by rw [ints_len]; have := HC.out.le; omega)).mono ?_
                  rintro e w3 ⟨v, rfl, hI, hfar, hb⟩
                  rw [ints_erase HC.out.nodup, ints_cons] at hI
                  have HR3 := Aside0.mk hI
                  have HF3 := Aside0.mk (Far.new (g := g) (h := h) HC2.out.lt2.1 HC2.out.lt2.2 hfar)
                  have HC3 := Aside0.mk (HC2.out.below hb)
                  have HB3 := Aside0.mk (below_step HB2.out hb)
                  clear hI hfar hb
                  go_wp2_with fail
                  go_meet
                  case rel => exact ⟨κ :: row.erase κ, _, rfl, rfl, HR3, HF3, HC3, HB3⟩
              · have e0 : (kind == 0) = false := by simp [q0]
                by_cases q1 : kind = 1
                · subst q1
                  as_aux_lemma =>
                    go_wp2_with fail
                    refine (front_in HC.out (i := κ) hκ).mono ?_
                    rintro e w2 ⟨rfl, hc2, hk2⟩
                    have HC2 := Aside0.mk hc2
                    have HB2 := Aside0.mk (later HB.out hk2 hg hh)
                    have HR2 := Aside0.mk (stay HR.out hk2 HF.out)
                    clear hc2 hk2
                    go_wp2_with fail
                    refine (rfront_calls HR2.out (by rw [ints_len]; have := HC.out.le; omega)).mono ?_
                    rintro e w3 ⟨v, rfl, hI, hfar, hb⟩
                    rw [ints_erase HC.out.nodup, ints_cons] at hI
                    have HR3 := Aside0.mk hI
                    have HF3 := Aside0.mk (Far.new (g := g) (h := h) HC2.out.lt2.1 HC2.out.lt2.2 hfar)
                    have HC3 := Aside0.mk (HC2.out.below hb)
                    have HB3 := Aside0.mk (below_step HB2.out hb)
                    clear hI hfar hb
                    go_wp2_with fail
                    go_meet
                    case rel => exact ⟨κ :: row.erase κ, _, rfl, rfl, HR3, HF3, HC3, HB3⟩
                · have e1 : (kind == 1) = false := by simp [q1]
                  by_cases q2 : kind = 2
                  · subst q2
                    as_aux_lemma =>
                      go_wp2_with fail
                      refine (back_in HC.out (i := κ) hκ).mono ?_
                      rintro e w2 ⟨rfl, hc2, hk2⟩
                      have HC2 := Aside0.mk hc2
                      have HB2 := Aside0.mk (later HB.out hk2 hg hh)
                      have HR2 := Aside0.mk (stay HR.out hk2 HF.out)
                      clear hc2 hk2
                      go_wp2_with fail
                      refine (rback_calls HR2.out (by rw [ints_len]; have := HC.out.le; omega)).mono ?_
                      rintro e w3 ⟨v, rfl, hI, hfar, hb⟩
                      rw [ints_erase HC.out.nodup, ints_snoc] at hI
                      have HR3 := Aside0.mk hI
                      have HF3 := Aside0.mk (Far.new (g := g) (h := h) HC2.out.lt2.1 HC2.out.lt2.2 hfar)
                      have HC3 := Aside0.mk (HC2.out.below hb)
                      have HB3 := Aside0.mk (below_step HB2.out hb)
                      clear hI hfar hb
                      go_wp2_with fail
                      go_meet
                      case rel => exact ⟨row.erase κ ++ [κ], _, rfl, rfl, HR3, HF3, HC3, HB3⟩
                  · have e2 : (kind == 2) = false := by simp [q2]
                    by_cases q3 : kind = 3
                    · subst q3
                      by_cases hm : κ ∈ row
                      · go_wp2_with fail
                        have hcut := cut_in HC.out (i := κ) hκ
                        rw [if_pos hm] at hcut
                        refine hcut.mono ?_
                        clear hcut
                        rintro e w2 ⟨rfl, hc2, hk2⟩
                        have HC2 := Aside0.mk hc2
                        have HB2 := Aside0.mk (later HB.out hk2 hg hh)
                        have HR2 := Aside0.mk (stay HR.out hk2 HF.out)
                        clear hc2 hk2
                        go_wp2_with fail
                        refine (rhas_calls (x := (κ : Int)) HR2.out (by rw [ints_len]; have := HC.out.le; omega)).mono ?_
                        rintro e w4 ⟨rfl, hb⟩
                        have HC4 := Aside0.mk (HC2.out.below hb)
                        have HB4 := Aside0.mk (below_step HB2.out hb)
                        have HR4 := Aside0.mk (HR2.out.mono hb)
                        clear hb HC2 HB2 HR2
                        have HC2 := HC4
                        have HB2 := HB4
                        have HR2 := HR4
                        clear HC4 HB4 HR4
                        have hmb : decide ((κ : Int) ∈ ints row) = true := decide_eq_true (mem_ints.2 hm)
                        rw [hmb]
                        go_wp2_with fail
                        refine (rcut_calls HR2.out (by rw [ints_len]; have := HC.out.le; omega)).mono ?_
                        rintro e w3 ⟨v, rfl, hI, hfar, hb⟩
                        rw [ints_erase HC.out.nodup] at hI
                        have HR3 := Aside0.mk hI
                        have HF3 := Aside0.mk (Far.new (g := g) (h := h) HC2.out.lt2.1 HC2.out.lt2.2 hfar)
                        have HC3 := Aside0.mk (HC2.out.below hb)
                        have HB3 := Aside0.mk (below_step HB2.out hb)
                        clear hI hfar hb
                        go_wp2_with fail
                        go_meet
                        case rel => exact ⟨row.erase κ, _, rfl, rfl, HR3, HF3, HC3, HB3⟩
                      · go_wp2_with fail
                        have hcut := cut_in HC.out (i := κ) hκ
                        rw [if_neg hm] at hcut
                        refine hcut.mono ?_
                        clear hcut
                        rintro e w2 ⟨rfl, hc2, hk2⟩
                        have HC2 := Aside0.mk hc2
                        have HB2 := Aside0.mk (later HB.out hk2 hg hh)
                        have HR2 := Aside0.mk (stay HR.out hk2 HF.out)
                        clear hc2 hk2
                        go_wp2_with fail
                        refine (rhas_calls (x := (κ : Int)) HR2.out (by rw [ints_len]; have := HC.out.le; omega)).mono ?_
                        rintro e w4 ⟨rfl, hb⟩
                        have HC4 := Aside0.mk (HC2.out.below hb)
                        have HB4 := Aside0.mk (below_step HB2.out hb)
                        have HR4 := Aside0.mk (HR2.out.mono hb)
                        clear hb HC2 HB2 HR2
                        have HC2 := HC4
                        have HB2 := HB4
                        have HR2 := HR4
                        clear HC4 HB4 HR4
                        have hmb : decide ((κ : Int) ∈ ints row) = false := decide_eq_false (fun h => hm (mem_ints.1 h))
                        rw [hmb]
                        go_wp2_with fail
                        refine (rcut_calls HR2.out (by rw [ints_len]; have := HC.out.le; omega)).mono ?_
                        rintro e w3 ⟨v, rfl, hI, hfar, hb⟩
                        rw [ints_erase HC.out.nodup] at hI
                        have HR3 := Aside0.mk hI
                        have HF3 := Aside0.mk (Far.new (g := g) (h := h) HC2.out.lt2.1 HC2.out.lt2.2 hfar)
                        have HC3 := Aside0.mk (HC2.out.below hb)
                        have HB3 := Aside0.mk (below_step HB2.out hb)
                        clear hI hfar hb
                        go_wp2_with fail
                        go_meet
                        case rel => exact ⟨row.erase κ, _, rfl, rfl, HR3, HF3, HC3, HB3⟩
                    · have e3 : (kind == 3) = false := by simp [q3]
                      go_wp2_with fail
                      go_meet
                      case rel => exact ⟨row, _, rfl, rfl, HR, HF, HC, HB⟩
            · have hth := HTHB.out
              rw [decide_eq_false hin] at hth
              subst hth
              simp only [cond_false] at he0
              subst he0
              have HTH := Aside0.mk (there_out HC.out.choose_spec.1 (i := k) (by omega))
              clear hin HTHB
              by_cases q0 : kind = 0
              · subst q0
                as_aux_lemma =>
                  go_wp2_with fail
                  refine (front_bad (by decide) HTH.out).mono ?_
                  rintro e w' ⟨rfl, rfl⟩
                  go_wp2_with fail
                  go_meet
                  case rel => exact ⟨row, _, rfl, rfl, HR, HF, HC, HB⟩
              · have e0 : (kind == 0) = false := by simp [q0]
                by_cases q1 : kind = 1
                · subst q1
                  as_aux_lemma =>
                    go_wp2_with fail
                    refine (front_bad (by decide) HTH.out).mono ?_
                    rintro e w' ⟨rfl, rfl⟩
                    go_wp2_with fail
                    go_meet
                    case rel => exact ⟨row, _, rfl, rfl, HR, HF, HC, HB⟩
                · have e1 : (kind == 1) = false := by simp [q1]
                  by_cases q2 : kind = 2
                  · subst q2
                    as_aux_lemma =>
                      go_wp2_with fail
                      refine (back_bad (by decide) HTH.out).mono ?_
                      rintro e w' ⟨rfl, rfl⟩
                      go_wp2_with fail
                      go_meet
                      case rel => exact ⟨row, _, rfl, rfl, HR, HF, HC, HB⟩
                  · have e2 : (kind == 2) = false := by simp [q2]
                    by_cases q3 : kind = 3
                    · subst q3
                      go_wp2_with fail
                      refine (cut_bad (by decide) HTH.out).mono ?_
                      rintro e w' ⟨rfl, rfl⟩
                      go_wp2_with fail
                      go_meet
                      case rel => exact ⟨row, _, rfl, rfl, HR, HF, HC, HB⟩
                    · have e3 : (kind == 3) = false := by simp [q3]
                      go_wp2_with fail
                      go_meet
                      case rel => exact ⟨row, _, rfl, rfl, HR, HF, HC, HB⟩
          case rest =>
            clear HR HF HC HB
            obtain ⟨row', e, rfl, rfl, HR, HF, HC, HB⟩ := hcut
            cases row' with
            | nil =>
              as_aux_lemma =>
                obtain ⟨A9, c9, hv, hc9, hC9⟩ := HR.out
                have hv : u9 = .slice A9 0 c9 := hv
                subst hv
                clear hC9
                go_wp2_with fail
                refine (first_empty HC.out).mono ?_
                rintro e w' ⟨rfl, rfl⟩
                go_wp2_with fail
                refine (last_empty HC.out).mono ?_
                rintro e w' ⟨rfl, rfl⟩
                go_wp2_with fail
                refine (row_empty (len_on HC.out)).mono ?_
                rintro e w' ⟨rfl, rfl⟩
                go_wp2_with fail
                refine (same_self (l := []) (IsL.nil _ _) HR.out (by simp)).mono ?_
                rintro e w7 ⟨rfl, hb⟩
                have HC7 := Aside0.mk (HC.out.below hb)
                have HB7 := Aside0.mk (below_step HB.out hb)
                have HR7 := Aside0.mk (HR.out.mono hb)
                clear hb HC HB HR
                go_wp2_with fail
                refine (len_on HC7.out).mono ?_
                rintro e w' ⟨rfl, rfl⟩
                have hH := has_any HC7.out ask
                rw [show decide (ask ∈ ints []) = false from by simp [ints]] at hH
                have HH := Aside0.mk hH
                clear hH
                go_wp2_with fail
                refine HH.out.mono ?_
                rintro e w' ⟨rfl, rfl⟩
                have hR := rhas_calls (x := ask) HR7.out (by simp [ints])
                rw [show decide (ask ∈ ints []) = false from by simp [ints]] at hR
                have HHR := Aside0.mk hR
                clear hR
                go_wp2_with fail
                refine HHR.out.mono ?_
                rintro e w8 ⟨rfl, hb⟩
                have HC8 := Aside0.mk (HC7.out.below hb)
                have HB8 := Aside0.mk (below_step HB7.out hb)
                have HR8 := Aside0.mk (HR7.out.mono hb)
                clear hb HC7 HB7 HR7 HH HHR
                go_wp2_with fail
                all_goals first | exact (undef_bool (by assumption)).elim | skip
                go_roundg (81 - (i + 1))
                case measure => have := HI.out; omega
                case rel => exact ⟨i + 1, [], by simp, ⟨rfl, by omega, by omega⟩, HR8, HF, HC8, HB8⟩
            | cons a t =>
              as_aux_lemma =>
                obtain ⟨t', b, htb⟩ : ∃ t' b, a :: t = t' ++ [b] := ⟨_, _, (List.dropLast_concat_getLast (by simp)).symm⟩
                obtain ⟨A9, c9, hv, hc9, hC9⟩ := HR.out
                rw [ints_len, List.length_cons] at hv
                subst hv
                have hlr := HC.out.le
                rw [List.length_cons] at hlr
                go_wp2_with fail
                refine (first_on HC.out).mono ?_
                rintro e w3 ⟨rfl, hb⟩
                have HC3 := Aside0.mk (HC.out.below hb)
                have HB3 := Aside0.mk (below_step HB.out hb)
                have HR3 := Aside0.mk (HR.out.mono hb)
                clear hb HC HB HR hC9
                go_wp2_with fail
                have hLast := HC3.out
                rw [htb] at hLast
                refine (last_on hLast).mono ?_
                clear hLast
                rintro e w4 ⟨rfl, hb⟩
                have HC4 := Aside0.mk (HC3.out.below hb)
                have HB4 := Aside0.mk (below_step HB3.out hb)
                have HR4 := Aside0.mk (HR3.out.mono hb)
                clear hb HC3 HB3 HR3
                go_wp2_with fail
                refine (row_on HC4.out (by simp)).mono ?_
                rintro e w5 ⟨v5, rfl, hR5, hb⟩
                have HI5 := Aside0.mk (r_ints hR5)
                have HC5 := Aside0.mk (HC4.out.below hb)
                have HB5 := Aside0.mk (below_step HB4.out hb)
                have HR5 := Aside0.mk (HR4.out.mono hb)
                clear hb HC4 HB4 HR4 hR5
                go_wp2_with fail
                refine (same_self HI5.out HR5.out (by rw [ints_len, List.length_cons]; omega)).mono ?_
                rintro e w7 ⟨rfl, hb⟩
                have HC7 := Aside0.mk (HC5.out.below hb)
                have HB7 := Aside0.mk (below_step HB5.out hb)
                have HR7 := Aside0.mk (HR5.out.mono hb)
                clear hb HC5 HB5 HR5 HI5
                have hLen := len_on HC7.out
                rw [show (((a :: t).length : Nat) : Int) = ((t.length + 1 : Nat) : Int) from rfl] at hLen
                have HLEN := Aside0.mk hLen
                clear hLen
                go_wp2_with fail
                refine HLEN.out.mono ?_
                rintro e w' ⟨rfl, rfl⟩
                obtain ⟨bq, hbq⟩ : ∃ bq, decide (ask ∈ ints (a :: t)) = bq := ⟨_, rfl⟩
                have hH := has_any HC7.out ask
                rw [hbq] at hH
                have HH := Aside0.mk hH
                have hR := rhas_calls (x := ask) HR7.out (by rw [ints_len, List.length_cons]; omega)
                rw [hbq] at hR
                have HHR := Aside0.mk hR
                have hbb : (bq != bq) = false := by cases bq <;> rfl
                clear hH hR hbq
                go_wp2_with fail
                refine HH.out.mono ?_
                rintro e w' ⟨rfl, rfl⟩
                go_wp2_with fail
                refine HHR.out.mono ?_
                rintro e w8 ⟨rfl, hb⟩
                have HC8 := Aside0.mk (HC7.out.below hb)
                have HB8 := Aside0.mk (below_step HB7.out hb)
                have HR8 := Aside0.mk (HR7.out.mono hb)
                clear hb HC7 HB7 HR7 HH HHR HLEN
                obtain ⟨A8, c8, hv8, hc8, hC8⟩ := HR8.out
                obtain ⟨ad9, e9, k0⟩ := Kd.at_int hC8 0 (by omega) (by rw [ints_len, List.length_cons]; omega)
                obtain ⟨ad9', e9', k1⟩ := Kd.at_int hC8 ((t.length : Nat) : Int) (by omega) (by rw [ints_len, List.length_cons]; omega)
                rw [ints_len, List.length_cons] at hv8
                injection hv8 with hv8 _ hc98
                subst hc98
                subst e9
                subst hv8
                injection e9' with e9'
                subst e9'
                rw [show rd (ints (a :: t)) 0 = (a : Int) from rfl] at k0
                rw [show rd (ints (a :: t)) ((t.length : Nat) : Int) = (b : Int) from by rw [rd_last htb]] at k1
                rw [Int.toNat_natCast] at k1
                rw [show (0 : Int).toNat = 0 from rfl, Addr.add_zero'] at k0
                have k2 : ((a : Int) != (a : Int)) = false := by simp
                have k3 : ((b : Int) != (b : Int)) = false := by simp
                clear hC8
                go_wp2_with fail
                all_goals first | exact (undef_bool (by assumption)).elim | skip
                go_roundg (81 - (i + 1))
                case measure => have := HI.out; omega
                case rel => exact ⟨i + 1, a :: t, by simp, ⟨rfl, by omega, by omega⟩, HR8, HF, HC8, HB8⟩
end Go.Proofs.Ytcncninjnickoaa.Chain
