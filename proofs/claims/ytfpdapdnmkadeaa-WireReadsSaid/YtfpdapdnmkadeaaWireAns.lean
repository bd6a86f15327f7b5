/- WireAnswers: what the law's call comes to. -/
import Derived.Test.YtfpdapdnmkadeaaWireTold
import Derived.StillTailTactics
namespace Go.Proofs.Ytfpdapdnmkadeaa.Wire
open Go.RowKit Go.Proofs.YtfpdapdnmkadeaaW.PrintWords Go.Proofs.YtfpdapdnmkadeaaW.PrintLast Go.Proofs.YtfpdapdnmkadeaaW.PrintMore
open Go.Proofs.Ytfpdapdnmkadeaa Go.Proofs.Ytfpdapdnmkadeaa.Vals Go.Proofs.Ytfpdapdnmkadeaa.Word Go.Proofs.Ytfpdapdnmkadeaa.Q
set_option linter.unusedVariables false
set_option linter.unusedSimpArgs false

def tot : List S27 → Nat
  | [] => 0
  | p :: t => p.f0.size + p.f1.size + tot t
theorem tot_snoc : ∀ (l : List S27) (p : S27), tot (l ++ [p]) = tot l + (p.f0.size + p.f1.size)
  | [], p => by simp [tot]
  | q :: t, p => by
    show q.f0.size + q.f1.size + tot (t ++ [p]) = _
    rw [tot_snoc t p]
    simp [tot]; omega
theorem encP_len : ∀ (l : List S27), (encP l).length = tot l + 3 * l.length
  | [] => rfl
  | p :: t => by
    simp only [encP, List.length_append, encT_len, List.length_cons, tot]
    rw [encP_len t]
    omega
theorem encA_len (E : Int) (s : ByteArray) (l : List S27) : (encA E s l).length = 7 + s.size + tot l + 3 * l.length := by
  unfold encA
  simp only [List.length_append, be_length, encT_len, encP_len]
  omega
theorem tot_le {l : List S27} (h : ∀ p ∈ l, p.f0.size ≤ 140737488351232 ∧ p.f1.size ≤ 140737488351232) : ∀ i, i ≤ l.length → tot (l.take i) ≤ 281474976702464 * i := by
  intro i
  induction i with
  | zero => intro _; simp [tot]
  | succ i ih =>
    intro hi
    have h1 := ih (by omega)
    obtain ⟨h2, h3⟩ := h _ (List.getElem_mem (show i < l.length by omega))
    rw [List.take_succ_eq_append_getElem (show i < l.length by omega), tot_snoc]
    omega

theorem byte_be (k : Nat) (x : Int) : Byte (be k x) := by
  induction k with
  | zero => exact Byte.nil
  | succ k ih =>
    intro c hc
    simp only [be, List.mem_cons] at hc
    rcases hc with rfl | hc
    · omega
    · exact ih c hc
theorem Byte.app {a b : List Int} (h : Byte a) (g : Byte b) : Byte (a ++ b) := fun c hc => by
  rcases List.mem_append.1 hc with h1 | h1
  · exact h c h1
  · exact g c h1
theorem byte_str (s : ByteArray) : Byte (bytesOf s) := fun c hc => by
  unfold bytesOf at hc
  obtain ⟨x, _, rfl⟩ := List.mem_map.1 hc
  have := x.toNat_lt
  omega
theorem byte_encT (k : Nat) (s : ByteArray) : Byte (encT k s) := by unfold encT; exact Byte.app (byte_be _ _) (byte_str s)
theorem byte_encP : ∀ l : List S27, Byte (encP l)
  | [] => Byte.nil
  | p :: t => by unfold encP; exact Byte.app (Byte.app (byte_encT _ _) (byte_encT _ _)) (byte_encP t)
theorem byte_encA (E : Int) (s : ByteArray) (l : List S27) : Byte (encA E s l) := by
  unfold encA
  exact Byte.app (Byte.app (Byte.app (byte_be _ _) (byte_encT _ _)) (byte_be _ _)) (byte_encP l)

set_option maxHeartbeats 8000000 in
set_option maxRecDepth 100000 in
theorem answers_calls {w : World} (E : Int) (s : ByteArray) (A : Option Addr) (c : Nat) (l : List S27) (hs : s.size ≤ 140737488351232) (hp : ∀ p ∈ l, p.f0.size ≤ 140737488351232 ∧ p.f1.size ≤ 140737488351232) (hC : Kd.C k27 w A l.length l) (hc : l.length ≤ c) :
    Calls Try.prog 3 #[.agg #[.int .i64 E, .string s, .slice A l.length c]] w fun e w' => e = .returned (.bool true) ∧ Below w.heap.size w w' := by
  have HS0 := Aside0.mk (blk_new w (.cells #[.int .i64 E, .string s, .slice A l.length c] 25))
  have HB0 := Aside0.mk (below_alloc (Below.refl w.heap.size w) (.cells #[.int .i64 E, .string s, .slice A l.length c] 25))
  have HL0 := Aside0.mk hC
  have HC := Aside0.mk hc
  have HSS := Aside0.mk hs
  have HPP := Aside0.mk hp
  clear hC hc hs hp
  go_enter Try.func3, Try.ntmps3
  go_upto_region 1 with fail
  generalize w.alloc (.cells #[.int .i64 E, .string s, .slice A l.length c] 25) = w1 at HS0 HB0 ⊢
  obtain ⟨S, hS⟩ : ∃ S, w.heap.size = S := ⟨_, rfl⟩
  rw [hS] at HS0
  try rw [hS]
  clear hS
  have k1 := (blk_cell HS0.out 1).trans rfl
  go_wp2_with fail
  clear k1
  go_loopg [3, 4] 201 (fun kq v3 v4 wx => ∃ (i : Nat), v3 = .int .i64 (((s.size + tot (l.take i) : Nat)) : Int) ∧ v4 = .int .i64 (i : Int) ∧ Aside0 (kq = 201 - i ∧ i ≤ 200 ∧ i ≤ l.length) ∧ Aside0 (wx.heap[S]? = some (.cells #[.int .i64 E, .string s, .slice A l.length c] 25 (0, 0))) ∧ Aside0 (Below w.heap.size w wx))
  case atStart => exact ⟨0, by simp [tot], rfl, ⟨rfl, by omega, by omega⟩, HS0, HB0⟩
  case round =>
    clear HS0 HB0
    obtain ⟨i, rfl, rfl, HI, HT, HB⟩ := hrel
    obtain ⟨q, hq⟩ : ∃ q, s.size + tot (l.take i) = q := ⟨_, rfl⟩
    have HQ := Aside0.mk hq
    have HQB := Aside0.mk (show q ≤ 140737488351232 + 281474976702464 * 200 by
      have h1 := tot_le HPP.out i HI.out.2.2
      have h2 := HSS.out
      have h3 := HI.out.2.1
      have h4 : 281474976702464 * i ≤ 281474976702464 * 200 := Nat.mul_le_mul_left _ h3
      omega)
    rw [hq]
    clear hq
    have k2 := (blk_cell HT.out 2).trans rfl
    go_upto_region 3 with fail
    go_cut [20] from 12 to 39 (fun v20 wx => v20 = .bool (decide (i < l.length ∧ i < 200)) ∧ wx = wr)
    case first =>
      by_cases p1 : i < l.length
      · have g1 : decide ((i : Int) < (l.length : Int)) = true := decide_eq_true (by omega)
        by_cases p2 : i < 200
        · have g2 : decide ((i : Int) < 200) = true := decide_eq_true (by omega)
          go_wp2_with fail
          go_meet
          case rel => exact ⟨by rw [decide_eq_true (show i < l.length ∧ i < 200 from ⟨p1, p2⟩)], rfl⟩
        · have g2 : decide ((i : Int) < 200) = false := decide_eq_false (by omega)
          go_wp2_with fail
          go_meet
          case rel => exact ⟨by rw [decide_eq_false (show ¬ (i < l.length ∧ i < 200) from by omega)], rfl⟩
      · have g1 : decide ((i : Int) < (l.length : Int)) = false := decide_eq_false (by omega)
        go_wp2_with fail
        go_meet
        case rel => exact ⟨by rw [decide_eq_false (show ¬ (i < l.length ∧ i < 200) from by omega)], rfl⟩
    case rest =>
      obtain ⟨rfl, hw⟩ := hcut
      subst hw
      clear k2
      by_cases hgo : i < l.length ∧ i < 200
      · rw [decide_eq_true hgo]
        obtain ⟨hi, h200⟩ := hgo
        obtain ⟨ad, rfl, c0, c1⟩ := pair_at HL0.out hi hi
        obtain ⟨hp0, hp1⟩ := HPP.out _ (List.getElem_mem hi)
        have htk : tot (l.take (i + 1)) = tot (l.take i) + (l[i].f0.size + l[i].f1.size) := by rw [List.take_succ_eq_append_getElem hi, tot_snoc]
        generalize l[i] = p at c0 c1 hp0 hp1 htk
        have h1 : (i : Int) < (l.length : Int) := by omega
        have hst : ∀ (j : Nat) (x : Value), w.cell? ⟨(ad.add (i * 2)).block, (ad.add (i * 2)).off + j, none⟩ = some x → wc.drew.cell? ⟨(ad.add (i * 2)).block, (ad.add (i * 2)).off + j, none⟩ = some x := fun j x h => (HB.out.cell (World.block_lt_of_cell? w _ h)).trans h
        have hc0 : wc.drew.cell? (ad.add (i * 2)) = some (.string p.f0) := (HB.out.cell (World.block_lt_of_cell? w _ c0)).trans c0
        have hc1 : wc.drew.cell? ⟨(ad.add (i * 2)).block, (ad.add (i * 2)).off + 1, none⟩ = some (.string p.f1) := hst 1 _ c1
        have HB2 := Aside0.mk (show Below w.heap.size w wc.drew from below_step HB.out (pw_below_drewN (Below.refl _ _) 1))
        have HT2 := Aside0.mk (show wc.drew.heap[S]? = _ from HT.out)
        have hk2 := (blk_cell HT2.out 2).trans rfl
        have HTK := Aside0.mk htk
        have hqb := HQB.out
        have hw1 : IntKind.i64.wrap ((p.f0.size : Int) + (p.f1.size : Int)) = (p.f0.size : Int) + (p.f1.size : Int) := by simp [IntKind.wrap, IntKind.signed, IntKind.bits]; omega
        have hw2 : IntKind.i64.wrap ((q : Int) + ((p.f0.size : Int) + (p.f1.size : Int))) = ((q + (p.f0.size + p.f1.size) : Nat) : Int) := by simp [IntKind.wrap, IntKind.signed, IntKind.bits]; omega
        clear c0 c1 hst htk
        go_wp2_with fail
        refine wp_region_still_tail 17 (by kernel_rfl) (by kernel_rfl) ?_
        simp only [List.take_succ_cons, List.take_zero, List.drop_succ_cons, List.drop_zero]
        have ew : ({ heap := wc.heap, tape := wc.tape, drawn := wc.drawn + 1, os := wc.os, output := wc.output } : World) = wc.drew := rfl
        rw [ew]
        clear ew
        generalize wc.drew = wq at hc0 hc1 hk2 HB2 HT2 ⊢
        repeat still_step
        refine wpStill_nil ?_
        clear hc0 hc1 hk2
        go_wp2_with fail
        go_roundg (200 - i)
        case measure => have := HI.out; omega
        case rel => exact ⟨i + 1, by rw [HTK.out, ← Nat.add_assoc, HQ.out]; rw [show (q : Int) + ((p.f0.size : Int) + (p.f1.size : Int)) = ((q + (p.f0.size + p.f1.size) : Nat) : Int) by omega], by simp, ⟨by omega, by omega, by omega⟩, HT2, HB2⟩
      · rw [decide_eq_false hgo]
        have HGO := Aside0.mk hgo
        have k2 := (blk_cell HT.out 2).trans rfl
        clear hgo
        by_cases p1 : 150 < l.length
        · have g1 : decide ((150 : Int) < (l.length : Int)) = true := decide_eq_true (by omega)
          go_wp2_with fail
          clear k2
          refine (awake_calls _).mono ?_
          rintro en w2 ⟨rfl, hb⟩
          have HB2 := Aside0.mk (below_step HB.out hb)
          clear hb
          go_wp2_with fail
          go_ret
          exact ⟨by simp, HB2.out⟩
        have g1 : decide ((150 : Int) < (l.length : Int)) = false := decide_eq_false (by omega)
        by_cases p2 : 200000 < q
        · have g2 : decide ((200000 : Int) < (q : Int)) = true := decide_eq_true (by omega)
          go_wp2_with fail
          clear k2
          refine (awake_calls _).mono ?_
          rintro en w2 ⟨rfl, hb⟩
          have HB2 := Aside0.mk (below_step HB.out hb)
          clear hb
          go_wp2_with fail
          go_ret
          exact ⟨by simp, HB2.out⟩
        have g2 : decide ((200000 : Int) < (q : Int)) = false := decide_eq_false (by omega)
        have HQL := Aside0.mk (show s.size + tot l ≤ 200000 by
          have h1 := HGO.out
          have h2 := HI.out
          have h3 : i = l.length := by omega
          have h4 := HQ.out
          rw [h3, List.take_length] at h4
          omega)
        have HLN := Aside0.mk (show l.length ≤ 150 by omega)
        clear p1 p2 HGO HQ HQB HI HPP HSS
        have HL1 := Aside0.mk (Kd.C_below HL0.out HB.out)
        clear HL0
        have k0 := (blk_cell HT.out 0).trans rfl
        have k1 := (blk_cell HT.out 1).trans rfl
        go_wp2_with fail
        clear k0 k1 k2 g1 g2
        refine (answer_calls E s A c l (by have := HLN.out; omega) _ HL1.out).mono ?_
        rintro en w2 ⟨u, z, rfl, hbad, hgood, hb⟩
        rw [aBad_is] at hbad hgood
        have HL := Aside0.mk (Kd.C_below HL1.out (below_low hb (by have := HB.out.size; omega)))
        have HB2 := Aside0.mk (below_step HB.out hb)
        have HS := Aside0.mk (blk_below HT.out hb)
        clear hb HB HT HL1
        by_cases htd : told E s l
        · obtain ⟨rfl, hR⟩ := hgood (by rw [decide_eq_true htd]; rfl)
          rw [aB_told htd] at hR
          obtain ⟨A5, c5, rfl, hc5, hC5⟩ := Kd.R_reads hR
          have HV0 := Aside0.mk (show Bys (encA E s l) (.slice A5 (encA E s l).length c5) w2 from ⟨A5, c5, rfl, hc5, hC5⟩)
          have HLB := Aside0.mk (show (encA E s l).length ≤ 8388608 by
            rw [encA_len]
            have h1 := HQL.out
            have h2 := HLN.out
            omega)
          have HLE := Aside0.mk (show l.length ≤ 65536 by have := HLN.out; omega)
          have HTD := Aside0.mk htd
          clear hbad hgood hR hc5 hC5 htd
          have k0 := (blk_cell HS.out 0).trans rfl
          have k1 := (blk_cell HS.out 1).trans rfl
          have k2 := (blk_cell HS.out 2).trans rfl
          go_wp2_with fail
          clear k0 k1 k2
          refine (as_calls E s A l.length c _).mono ?_
          rintro en w3 ⟨rfl, hb⟩
          have HB3 := Aside0.mk (below_step HB2.out hb)
          have HS3 := Aside0.mk (blk_below HS.out hb)
          have HL3 := Aside0.mk (Kd.C_below HL.out hb)
          have HV3 := Aside0.mk (HV0.out.mono hb)
          clear HV0
          clear hb HB2 HS HL
          go_wp2_with fail
          refine (rtold_calls E s A c l HL3.out HC.out (by have := HLN.out; omega)).mono ?_
          rintro en w4 ⟨rfl, hb⟩
          rw [decide_eq_true HTD.out]
          have HB4 := Aside0.mk (below_step HB3.out hb)
          have HS4 := Aside0.mk (blk_below HS3.out hb)
          have HL4 := Aside0.mk (Kd.C_below HL3.out hb)
          have HV4 := Aside0.mk (HV3.out.mono hb)
          clear HV3
          clear hb HB3 HS3 HL3
          go_wp2_with fail
          refine (told_calls HV4.out (byte_encA E s l) (by have := HLB.out; omega)).mono ?_
          rintro en w5 ⟨hen, _, hb⟩
          obtain ⟨hok, hra⟩ := okA_enc HTD.out HLE.out
          obtain ⟨vl, hen, hR⟩ := hen hok
          rw [hra] at hen hR
          subst hen
          obtain ⟨A2, c2, rfl, hc2, hC2⟩ := Kd.R_reads hR
          have HB5 := Aside0.mk (below_step HB4.out hb)
          have HS5 := Aside0.mk (blk_below HS4.out hb)
          have HL5 := Aside0.mk (Kd.C_below HL4.out hb)
          have HV5 := Aside0.mk (HV4.out.mono hb)
          have HC2 := Aside0.mk hc2
          have HL25 := Aside0.mk hC2
          clear hb HB4 HS4 HL4 HV4 hR hc2 hC2 hok hra
          go_upto_region 12 with fail
          have hba := below_alloc (Below.refl w5.heap.size w5) (.cells #[.int .i64 E, .string s, .slice A2 l.length c2] 25)
          have HT := Aside0.mk (blk_new w5 (.cells #[.int .i64 E, .string s, .slice A2 l.length c2] 25))
          have HB := Aside0.mk (below_step HB5.out hba)
          have HS := Aside0.mk (blk_below HS5.out hba)
          have HL := Aside0.mk (Kd.C_below HL5.out hba)
          have HL2 := Aside0.mk (Kd.C_below HL25.out hba)
          have HV := Aside0.mk (HV5.out.mono hba)
          clear HB5 HS5 HL5 HL25 HV5 hba
          generalize w5.alloc (.cells #[.int .i64 E, .string s, .slice A2 l.length c2] 25) = w6 at HT HB HS HL HL2 HV ⊢
          generalize w5.heap.size = T at HT ⊢
          refine Reg.region_list [Reg.Is (.int .i64 0), Reg.Is (.bool true), Reg.Is (.bool true), Reg.Is (.slice A5 (encA E s l).length c5), Reg.Is (.string (strOfNums (encA E s l))), Reg.Is (.agg #[.int .i64 E, .string s, .slice A l.length c]), Reg.Is (.agg #[.int .i64 E, .string s, .slice A l.length c]), Reg.Is (.string (strOfNums (encA E s l))), Reg.Is (.bool true), Reg.Is (.bool true), Reg.Is (.bool true), Reg.Is (.int .i64 0), Reg.Is (.bool true), Reg.Is (.bool true), Reg.Is (.bool true), Reg.Is (.agg #[.int .i64 E, .string s, .slice A2 l.length c2]), Reg.Is (.agg #[.int .i64 E, .string s, .slice A2 l.length c2]), Reg.Is (.agg #[.int .i64 E, .string s, .slice A l.length c]), Reg.Is (.agg #[.int .i64 E, .string s, .slice A l.length c]), Reg.Is (.bool true), Reg.Is (.bool true), Reg.Is (.bool true), Reg.Is (.bool true), Reg.Is (.bool true), Reg.Is (.bool true)]
              [some 73, some 74, some 75, some 76, some 77, some 78, some 79, some 80, some 81, some 82, some 83, some 84, some 85, some 86, some 87, some 88, some 89, some 90, some 91, some 92, some 93, some 94, some 95, some 96, some 2] (by kernel_rfl) (by rfl) (by rfl) (by rfl) rfl ⟨Reg.mono_is _, Reg.mono_is _, Reg.mono_is _, Reg.mono_is _, Reg.mono_is _, Reg.mono_is _, Reg.mono_is _, Reg.mono_is _, Reg.mono_is _, Reg.mono_is _, Reg.mono_is _, Reg.mono_is _, Reg.mono_is _, Reg.mono_is _, Reg.mono_is _, Reg.mono_is _, Reg.mono_is _, Reg.mono_is _, Reg.mono_is _, Reg.mono_is _, Reg.mono_is _, Reg.mono_is _, Reg.mono_is _, Reg.mono_is _, Reg.mono_is _, trivial⟩ (Reg.noneOk_of (by rfl)) ⟨?_, ?_, ?_, ?_, ?_, ?_, ?_, ?_, ?_, ?_, ?_, ?_, ?_, ?_, ?_, ?_, ?_, ?_, ?_, ?_, ?_, ?_, ?_, ?_, ?_, trivial⟩ ?_
          · intro a w hl   -- 0: slot 73
            have q6 : a.eval (.tmp 6) = .int .i64 0 := hl.out 6 rfl
            have qc : ∀ x, a.eval (.const x) = x := fun _ => rfl
            refine Reg.does_is (x := .int .i64 0) rfl rfl ?_
            clear hl
            generalize a.eval = ρ at *
            go_simp
          · intro a w hl   -- 1: slot 74
            have q73 : a.eval (.tmp 73) = .int .i64 0 := hl.has 0 rfl
            have qc : ∀ x, a.eval (.const x) = x := fun _ => rfl
            refine Reg.does_is (x := .bool true) rfl rfl ?_
            clear hl
            generalize a.eval = ρ at *
            go_simp
          · intro a w hl   -- 2: slot 75
            have q74 : a.eval (.tmp 74) = .bool true := hl.has 1 rfl
            have qc : ∀ x, a.eval (.const x) = x := fun _ => rfl
            refine Reg.does_is (x := .bool true) rfl rfl ?_
            clear hl
            generalize a.eval = ρ at *
            go_simp
          · intro a w hl   -- 3: slot 76
            have q5 : a.eval (.tmp 5) = .slice A5 (encA E s l).length c5 := hl.out 5 rfl
            have q75 : a.eval (.tmp 75) = .bool true := hl.has 2 rfl
            have qc : ∀ x, a.eval (.const x) = x := fun _ => rfl
            refine Reg.does_is (x := .slice A5 (encA E s l).length c5) rfl (Reg.wanted_of rfl rfl (hl.yields 2 rfl rfl q75)) ?_
            clear hl
            generalize a.eval = ρ at *
            go_simp
          · intro a w hl   -- 4: slot 77
            have q76 : a.eval (.tmp 76) = .slice A5 (encA E s l).length c5 := hl.has 3 rfl
            have q75 : a.eval (.tmp 75) = .bool true := hl.has 2 rfl
            have qc : ∀ x, a.eval (.const x) = x := fun _ => rfl
            refine Reg.does_is (x := .string (strOfNums (encA E s l))) rfl (Reg.wanted_of rfl rfl (hl.yields 2 rfl rfl q75)) ?_
            have hs := run_str (HV.out.mono hl.below)
            clear hl
            generalize a.eval = ρ at *
            go_simp
          · intro a w hl   -- 5: slot 78
            have q1 : a.eval (.tmp 1) = .pointer (some ⟨S, 0, none⟩) := hl.out 1 rfl
            have q75 : a.eval (.tmp 75) = .bool true := hl.has 2 rfl
            have qc : ∀ x, a.eval (.const x) = x := fun _ => rfl
            refine Reg.does_is (x := .agg #[.int .i64 E, .string s, .slice A l.length c]) rfl (Reg.wanted_of rfl rfl (hl.yields 2 rfl rfl q75)) ?_
            have ht := blk_below HS.out hl.below
            have k0 := (blk_cell ht 0).trans rfl
            have k1 := (blk_cell ht 1).trans rfl
            have k2 := (blk_cell ht 2).trans rfl
            clear hl ht
            generalize a.eval = ρ at *
            go_simp
          · intro a w hl   -- 6: slot 79
            have q78 : a.eval (.tmp 78) = .agg #[.int .i64 E, .string s, .slice A l.length c] := hl.has 5 rfl
            have q75 : a.eval (.tmp 75) = .bool true := hl.has 2 rfl
            have qc : ∀ x, a.eval (.const x) = x := fun _ => rfl
            refine Reg.does_call_is (x := .agg #[.int .i64 E, .string s, .slice A l.length c]) #[.agg #[.int .i64 E, .string s, .slice A l.length c]] rfl (Reg.wanted_of rfl rfl (hl.yields 2 rfl rfl q75)) Try.func11 (by kernel_rfl) rfl rfl (by simp [qc, q78]) ?_
            exact as_calls E s A l.length c w
          · intro a w hl   -- 7: slot 80
            have q79 : a.eval (.tmp 79) = .agg #[.int .i64 E, .string s, .slice A l.length c] := hl.has 6 rfl
            have q75 : a.eval (.tmp 75) = .bool true := hl.has 2 rfl
            have qc : ∀ x, a.eval (.const x) = x := fun _ => rfl
            refine Reg.does_call_is (x := .string (strOfNums (encA E s l))) #[.agg #[.int .i64 E, .string s, .slice A l.length c]] rfl (Reg.wanted_of rfl rfl (hl.yields 2 rfl rfl q75)) Try.func13 (by kernel_rfl) rfl rfl (by simp [qc, q79]) ?_
            exact ranswer_calls A c HTD.out (Kd.C_below HL.out hl.below) HC.out HLB.out HLE.out
          · intro a w hl   -- 8: slot 81
            have q77 : a.eval (.tmp 77) = .string (strOfNums (encA E s l)) := hl.has 4 rfl
            have q80 : a.eval (.tmp 80) = .string (strOfNums (encA E s l)) := hl.has 7 rfl
            have q75 : a.eval (.tmp 75) = .bool true := hl.has 2 rfl
            have qc : ∀ x, a.eval (.const x) = x := fun _ => rfl
            refine Reg.does_is (x := .bool true) rfl (Reg.wanted_of rfl rfl (hl.yields 2 rfl rfl q75)) ?_
            clear hl
            generalize a.eval = ρ at *
            go_simp
          · intro a w hl   -- 9: slot 82
            have q75 : a.eval (.tmp 75) = .bool true := hl.has 2 rfl
            have q81 : a.eval (.tmp 81) = .bool true := hl.has 8 rfl
            have qc : ∀ x, a.eval (.const x) = x := fun _ => rfl
            refine Reg.does_is (x := .bool true) rfl rfl ?_
            clear hl
            generalize a.eval = ρ at *
            go_simp
          · intro a w hl   -- 10: slot 83
            have q82 : a.eval (.tmp 82) = .bool true := hl.has 9 rfl
            have qc : ∀ x, a.eval (.const x) = x := fun _ => rfl
            refine Reg.does_is (x := .bool true) rfl rfl ?_
            clear hl
            generalize a.eval = ρ at *
            go_simp
          · intro a w hl   -- 11: slot 84
            have q8 : a.eval (.tmp 8) = .int .i64 0 := hl.out 8 rfl
            have q83 : a.eval (.tmp 83) = .bool true := hl.has 10 rfl
            have qc : ∀ x, a.eval (.const x) = x := fun _ => rfl
            refine Reg.does_is (x := .int .i64 0) rfl (Reg.wanted_of rfl rfl (hl.yields 10 rfl rfl q83)) ?_
            clear hl
            generalize a.eval = ρ at *
            go_simp
          · intro a w hl   -- 12: slot 85
            have q84 : a.eval (.tmp 84) = .int .i64 0 := hl.has 11 rfl
            have q83 : a.eval (.tmp 83) = .bool true := hl.has 10 rfl
            have qc : ∀ x, a.eval (.const x) = x := fun _ => rfl
            refine Reg.does_is (x := .bool true) rfl (Reg.wanted_of rfl rfl (hl.yields 10 rfl rfl q83)) ?_
            clear hl
            generalize a.eval = ρ at *
            go_simp
          · intro a w hl   -- 13: slot 86
            have q83 : a.eval (.tmp 83) = .bool true := hl.has 10 rfl
            have q85 : a.eval (.tmp 85) = .bool true := hl.has 12 rfl
            have qc : ∀ x, a.eval (.const x) = x := fun _ => rfl
            refine Reg.does_is (x := .bool true) rfl rfl ?_
            clear hl
            generalize a.eval = ρ at *
            go_simp
          · intro a w hl   -- 14: slot 87
            have q86 : a.eval (.tmp 86) = .bool true := hl.has 13 rfl
            have qc : ∀ x, a.eval (.const x) = x := fun _ => rfl
            refine Reg.does_is (x := .bool true) rfl rfl ?_
            clear hl
            generalize a.eval = ρ at *
            go_simp
          · intro a w hl   -- 15: slot 88
            have q7 : a.eval (.tmp 7) = .pointer (some ⟨T, 0, none⟩) := hl.out 7 rfl
            have q87 : a.eval (.tmp 87) = .bool true := hl.has 14 rfl
            have qc : ∀ x, a.eval (.const x) = x := fun _ => rfl
            refine Reg.does_is (x := .agg #[.int .i64 E, .string s, .slice A2 l.length c2]) rfl (Reg.wanted_of rfl rfl (hl.yields 14 rfl rfl q87)) ?_
            have ht := blk_below HT.out hl.below
            have k0 := (blk_cell ht 0).trans rfl
            have k1 := (blk_cell ht 1).trans rfl
            have k2 := (blk_cell ht 2).trans rfl
            clear hl ht
            generalize a.eval = ρ at *
            go_simp
          · intro a w hl   -- 16: slot 89
            have q88 : a.eval (.tmp 88) = .agg #[.int .i64 E, .string s, .slice A2 l.length c2] := hl.has 15 rfl
            have q87 : a.eval (.tmp 87) = .bool true := hl.has 14 rfl
            have qc : ∀ x, a.eval (.const x) = x := fun _ => rfl
            refine Reg.does_call_is (x := .agg #[.int .i64 E, .string s, .slice A2 l.length c2]) #[.agg #[.int .i64 E, .string s, .slice A2 l.length c2]] rfl (Reg.wanted_of rfl rfl (hl.yields 14 rfl rfl q87)) Try.func11 (by kernel_rfl) rfl rfl (by simp [qc, q88]) ?_
            exact as_calls E s A2 l.length c2 w
          · intro a w hl   -- 17: slot 90
            have q1 : a.eval (.tmp 1) = .pointer (some ⟨S, 0, none⟩) := hl.out 1 rfl
            have q87 : a.eval (.tmp 87) = .bool true := hl.has 14 rfl
            have qc : ∀ x, a.eval (.const x) = x := fun _ => rfl
            refine Reg.does_is (x := .agg #[.int .i64 E, .string s, .slice A l.length c]) rfl (Reg.wanted_of rfl rfl (hl.yields 14 rfl rfl q87)) ?_
            have ht := blk_below HS.out hl.below
            have k0 := (blk_cell ht 0).trans rfl
            have k1 := (blk_cell ht 1).trans rfl
            have k2 := (blk_cell ht 2).trans rfl
            clear hl ht
            generalize a.eval = ρ at *
            go_simp
          · intro a w hl   -- 18: slot 91
            have q90 : a.eval (.tmp 90) = .agg #[.int .i64 E, .string s, .slice A l.length c] := hl.has 17 rfl
            have q87 : a.eval (.tmp 87) = .bool true := hl.has 14 rfl
            have qc : ∀ x, a.eval (.const x) = x := fun _ => rfl
            refine Reg.does_call_is (x := .agg #[.int .i64 E, .string s, .slice A l.length c]) #[.agg #[.int .i64 E, .string s, .slice A l.length c]] rfl (Reg.wanted_of rfl rfl (hl.yields 14 rfl rfl q87)) Try.func11 (by kernel_rfl) rfl rfl (by simp [qc, q90]) ?_
            exact as_calls E s A l.length c w
          · intro a w hl   -- 19: slot 92
            have q89 : a.eval (.tmp 89) = .agg #[.int .i64 E, .string s, .slice A2 l.length c2] := hl.has 16 rfl
            have q91 : a.eval (.tmp 91) = .agg #[.int .i64 E, .string s, .slice A l.length c] := hl.has 18 rfl
            have q87 : a.eval (.tmp 87) = .bool true := hl.has 14 rfl
            have qc : ∀ x, a.eval (.const x) = x := fun _ => rfl
            refine Reg.does_call_is (x := .bool true) #[.agg #[.int .i64 E, .string s, .slice A2 l.length c2], .agg #[.int .i64 E, .string s, .slice A l.length c]] rfl (Reg.wanted_of rfl rfl (hl.yields 14 rfl rfl q87)) Try.func14 (by kernel_rfl) rfl rfl (by simp [qc, q89, q91]) ?_
            exact rsame_calls E s A2 A c2 c l (Kd.C_below HL2.out hl.below) HC2.out (Kd.C_below HL.out hl.below) HC.out (by have := HLE.out; omega)
          · intro a w hl   -- 20: slot 93
            have q87 : a.eval (.tmp 87) = .bool true := hl.has 14 rfl
            have q92 : a.eval (.tmp 92) = .bool true := hl.has 19 rfl
            have qc : ∀ x, a.eval (.const x) = x := fun _ => rfl
            refine Reg.does_is (x := .bool true) rfl rfl ?_
            clear hl
            generalize a.eval = ρ at *
            go_simp
          · intro a w hl   -- 21: slot 94
            have q93 : a.eval (.tmp 93) = .bool true := hl.has 20 rfl
            have qc : ∀ x, a.eval (.const x) = x := fun _ => rfl
            refine Reg.does_is (x := .bool true) rfl rfl ?_
            clear hl
            generalize a.eval = ρ at *
            go_simp
          · intro a w hl   -- 22: slot 95
            have q94 : a.eval (.tmp 94) = .bool true := hl.has 21 rfl
            have qc : ∀ x, a.eval (.const x) = x := fun _ => rfl
            refine Reg.does_call_is (x := .bool true) #[] rfl (Reg.wanted_of rfl rfl (hl.yields 21 rfl rfl q94)) Try.func8 (by kernel_rfl) rfl rfl (by simp [qc]) ?_
            exact awake_calls w
          · intro a w hl   -- 23: slot 96
            have q94 : a.eval (.tmp 94) = .bool true := hl.has 21 rfl
            have q95 : a.eval (.tmp 95) = .bool true := hl.has 22 rfl
            have qc : ∀ x, a.eval (.const x) = x := fun _ => rfl
            refine Reg.does_is (x := .bool true) rfl rfl ?_
            clear hl
            generalize a.eval = ρ at *
            go_simp
          · intro a w hl   -- 24: slot 2
            have q96 : a.eval (.tmp 96) = .bool true := hl.has 23 rfl
            have qc : ∀ x, a.eval (.const x) = x := fun _ => rfl
            refine Reg.does_is (x := .bool true) rfl rfl ?_
            clear hl
            generalize a.eval = ρ at *
            go_simp
          · rintro v w hb ⟨e73, e74, e75, e76, e77, e78, e79, e80, e81, e82, e83, e84, e85, e86, e87, e88, e89, e90, e91, e92, e93, e94, e95, e96, e2, _⟩
            replace e73 : v 0 = .int .i64 0 := e73
            replace e74 : v 1 = .bool true := e74
            replace e75 : v 2 = .bool true := e75
            replace e76 : v 3 = .slice A5 (encA E s l).length c5 := e76
            replace e77 : v 4 = .string (strOfNums (encA E s l)) := e77
            replace e78 : v 5 = .agg #[.int .i64 E, .string s, .slice A l.length c] := e78
            replace e79 : v 6 = .agg #[.int .i64 E, .string s, .slice A l.length c] := e79
            replace e80 : v 7 = .string (strOfNums (encA E s l)) := e80
            replace e81 : v 8 = .bool true := e81
            replace e82 : v 9 = .bool true := e82
            replace e83 : v 10 = .bool true := e83
            replace e84 : v 11 = .int .i64 0 := e84
            replace e85 : v 12 = .bool true := e85
            replace e86 : v 13 = .bool true := e86
            replace e87 : v 14 = .bool true := e87
            replace e88 : v 15 = .agg #[.int .i64 E, .string s, .slice A2 l.length c2] := e88
            replace e89 : v 16 = .agg #[.int .i64 E, .string s, .slice A2 l.length c2] := e89
            replace e90 : v 17 = .agg #[.int .i64 E, .string s, .slice A l.length c] := e90
            replace e91 : v 18 = .agg #[.int .i64 E, .string s, .slice A l.length c] := e91
            replace e92 : v 19 = .bool true := e92
            replace e93 : v 20 = .bool true := e93
            replace e94 : v 21 = .bool true := e94
            replace e95 : v 22 = .bool true := e95
            replace e96 : v 23 = .bool true := e96
            replace e2 : v 24 = .bool true := e2
            simp only [Reg.putL, Act.put, List.setIfInBounds_toArray, List.set_cons_zero, List.set_cons_succ, e73, e74, e75, e76, e77, e78, e79, e80, e81, e82, e83, e84, e85, e86, e87, e88, e89, e90, e91, e92, e93, e94, e95, e96, e2]
            clear e73 e74 e75 e76 e77 e78 e79 e80 e81 e82 e83 e84 e85 e86 e87 e88 e89 e90 e91 e92 e93 e94 e95 e96 e2
            have HB9 := Aside0.mk (below_step HB.out hb)
            clear hb
            go_wp2_with fail
            go_ret
            exact ⟨by simp, HB9.out⟩
        · obtain ⟨rfl, rfl⟩ := hbad (by rw [decide_eq_false htd]; rfl)
          have HTD := Aside0.mk htd
          clear hbad hgood htd
          have k0 := (blk_cell HS.out 0).trans rfl
          have k1 := (blk_cell HS.out 1).trans rfl
          have k2 := (blk_cell HS.out 2).trans rfl
          go_wp2_with fail
          clear k0 k1 k2
          refine (as_calls E s A l.length c _).mono ?_
          rintro en w3 ⟨rfl, hb⟩
          have HB3 := Aside0.mk (below_step HB2.out hb)
          have HS3 := Aside0.mk (blk_below HS.out hb)
          have HL3 := Aside0.mk (Kd.C_below HL.out hb)
          clear hb HB2 HS HL
          go_wp2_with fail
          refine (rtold_calls E s A c l HL3.out HC.out (by have := HLN.out; omega)).mono ?_
          rintro en w4 ⟨rfl, hb⟩
          rw [decide_eq_false HTD.out]
          have HB4 := Aside0.mk (below_step HB3.out hb)
          have HS4 := Aside0.mk (blk_below HS3.out hb)
          have HL4 := Aside0.mk (Kd.C_below HL3.out hb)
          clear hb HB3 HS3 HL3
          go_wp2_with fail
          refine (awake_calls _).mono ?_
          rintro en w5 ⟨rfl, hb⟩
          have HB5 := Aside0.mk (below_step HB4.out hb)
          clear hb
          go_wp2_with fail
          go_ret
          exact ⟨by simp, HB5.out⟩
end Go.Proofs.Ytfpdapdnmkadeaa.Wire
