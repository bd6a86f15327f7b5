/- Each. -/
import Derived.Test.YtcdgenoakpmlbaaMix9
import Derived.Test.YtcdgenoakpmlbaaMixStart
namespace Go.Proofs.Ytcdgenoakpmlbaa.Mix
open Go.RowKit Go.Proofs.YtcdgenoakpmlbaaW.PrintWords Go.Proofs.YtcdgenoakpmlbaaW.PrintLast Go.Proofs.YtcdgenoakpmlbaaW.PrintMore
open Go.Proofs.Ytcdgenoakpmlbaa Go.Proofs.Ytcdgenoakpmlbaa.Vals Go.Proofs.Ytcdgenoakpmlbaa.Q
set_option linter.unusedVariables false
set_option linter.unusedSimpArgs false

theorem fn_nil (f : Nat) (caps : Array Value) (W : World) : (binOp .eql 34 (.func (.func f) #[] caps) .nilFunc).run Try.prog W = .ok (.bool false) W := by kernel_rfl
def seenK (last : Option ByteArray) : ByteArray := last.getD ⟨#[]⟩
/-- The frame of what is called back: I: what it knows of its own memory (the blocks M), where L was told so far. -/
structure Cb (w0 : World) (f : Nat) (caps : Array Value) (go : List (Int × S32) → Bool) (I : World → List (Int × S32) → (Nat → Prop) → Prop) : Prop where
  enter : ∀ (args : Array Value) (W : World), (callFunc f args).run Try.prog W = .ok (.enter f args) W
  low : ∀ {w L M}, I w L M → ∀ k, M k → w0.heap.size ≤ k ∧ k < w.heap.size
  stay : ∀ {w w' L M}, I w L M → (∀ k, M k → w'.heap[k]? = w.heap[k]?) → w.heap.size ≤ w'.heap.size → I w' L M
  call : ∀ {w L M} (r : Int) (p : S32), I w L M → Below w0.heap.size w0 w → L.length < 1000000 →
    Calls Try.prog f (#[.int .i64 r, .agg #[.string p.f0, .string p.f1]] ++ caps) w fun e w' => e = .returned (.bool (go (L ++ [(r, p)]))) ∧ ∃ M', I w' (L ++ [(r, p)]) M' ∧ (∀ k, M' k → M k ∨ w.heap.size ≤ k) ∧ Keeps M w w'
/-- Front with a mark at the world itself. -/
abbrev GH (w0 w : World) (G F : Nat) : Gh := ⟨w0, w, fun j => j = G ∨ j = F⟩
theorem Front.marked {w0 : Gh} {w : World} {G F cap : Nat} {qs : List Qu} (h : Front w0 w G F cap qs) : Front (GH w0.w0 w G F) w G F cap qs :=
  ⟨h.ex, h.fr, h.ne, h.low, h.rows, h.few, h.old, ⟨Or.inl rfl, Or.inr rfl⟩, Keeps.refl _ _⟩
theorem Front.turned {w0 : Gh} {w w' : World} {G F cap : Nat} {qs : List Qu} {M : Nat → Prop} (h : Front w0 w G F cap qs) (hk : Keeps M w w') (hM : ∀ k, M k → w0.w0.heap.size ≤ k) (hG : ¬ M G) (hF : ¬ M F) : Front (GH w0.w0 w' G F) w' G F cap qs :=
  ⟨hk.blk h.ex hG, h.fr.mono (hk.block F h.fr.lt hF), h.ne, h.low, h.rows, h.few, Keeps.below_then h.old (Nat.le_refl _) hk hM, ⟨Or.inl rfl, Or.inr rfl⟩, Keeps.refl _ _⟩
theorem head_at {l : List S32} (h : 0 < l.length) : l[0] = l.headD z32 := by
  cases l with
  | nil => simp at h
  | cons a t => rfl
/-- The cells of row i. -/
theorem row_at {w : World} {A : Option Addr} {rows : List (List S32)} (h : (Kd.slice 32 k32).C w A rows.length rows) {i : Nat} (hi : i < rows.length) :
    ∃ ad B c, A = some ad ∧ w.cell? (ad.add i) = some (.slice B (rows[i]).length c) ∧ (rows[i]).length ≤ c ∧ k32.C w B (rows[i]).length rows[i] := by
  obtain ⟨ad, cs, e, _, hK, hc0⟩ := Kd.C_get h [] (i : Int) (by omega) (by omega)
  have hc : ∀ j u, cs[j]? = some u → w.cell? (ad.add ((i : Int).toNat * 1 + j)) = some u := hc0
  rw [Int.toNat_natCast] at hc
  have hr : rows.getD i [] = rows[i] := by rw [List.getD_eq_getElem?_getD, List.getElem?_eq_getElem hi]; rfl
  rw [Int.toNat_natCast, hr] at hK
  obtain ⟨B, c, rfl, h2, h3⟩ := hK
  have := hc 0 _ rfl
  rw [Nat.mul_one] at this
  exact ⟨ad, B, c, e, this, h2, h3⟩
set_option maxHeartbeats 4000000 in
theorem each_calls {w0 w : World} (A : Option Addr) (c : Nat) {rows : List (List S32)} (h : (Kd.slice 32 k32).C w0 A rows.length rows) (hl : rows.length ≤ 100000) (hold : Below w0.heap.size w0 w) (f : Nat) (caps : Array Value) {go : List (Int × S32) → Bool} {I : World → List (Int × S32) → (Nat → Prop) → Prop} (hcb : Cb w0 f caps go I) {M : Nat → Prop} (hI : I w [] M) (htot : (rows.map List.length).sum ≤ 100000) :
    Calls Try.prog 12 #[.slice A rows.length c, .func (.func f) #[] caps] w fun e w' => (∃ u, e = .returned u) ∧ ∃ qs M', Start rows qs ∧ I w' (runL go (total qs) qs none []) M' ∧ Below w0.heap.size w0 w' := by
  have g1 : ((rows.length : Int)) ≤ 100000 := by omega
  have hn := fun W => fn_nil f caps W
  have HR := Aside0.mk h
  have HL := Aside0.mk hl
  obtain ⟨G, hG⟩ : ∃ G, w.heap.size + 1 = G := ⟨_, rfl⟩
  have HF0 := Aside0.mk (show Front ⟨w0, w, fun j => w.heap.size ≤ j⟩ ((w.alloc (.cells #[] 44)).alloc (.cells #[.slice (some ⟨w.heap.size, 0, none⟩) 0 0] 41)) G w.heap.size 0 [] from by
    have hb : Below w.heap.size w ((w.alloc (.cells #[] 44)).alloc (.cells #[.slice (some ⟨w.heap.size, 0, none⟩) 0 0] 41)) := below_alloc (below_alloc (Below.refl _ _) _) _
    have hs := hold.size
    refine ⟨?_, ⟨#[], ?_, ⟨by simp, rfl⟩, fun i hi => by simp at hi⟩, by omega, ⟨hs, by show w0.heap.size ≤ G; omega⟩, fun q hq => by simp at hq, by simp, below_step hold (hb), ⟨by show w.heap.size ≤ G; omega, Nat.le_refl _⟩, Keeps.of_below hb _⟩
    · have h1 := blk_new (w.alloc (.cells #[] 44)) (.cells #[.slice (some ⟨w.heap.size, 0, none⟩) 0 0] 41)
      rw [show (w.alloc (.cells #[] 44)).heap.size = G by rw [← hG]; simp] at h1
      exact h1
    · exact (Below.heap_alloc _ _ _ (by simp)).trans (blk_new w _))
  have HCB := Aside0.mk hcb
  have HT := Aside0.mk htot
  have HOLD := Aside0.mk hold
  have HI0 := Aside0.mk hI
  clear h hl hcb hI htot hold
  go_enter Try.func12, Try.ntmps12
  go_wp2_with fail
  clear hG
  generalize ((w.alloc (.cells #[] 44)).alloc (.cells #[.slice (some ⟨w.heap.size, 0, none⟩) 0 0] 41)) = w1 at HF0 ⊢
  go_loopg [17] rows.length (fun kq v17 wx => ∃ (i F cap : Nat) (qs : List Qu), v17 = .int .i64 (i : Int) ∧ Aside0 (kq = rows.length - i ∧ i ≤ rows.length ∧ cap ≤ maxLen) ∧ Aside0 (Front ⟨w0, w, fun j => w.heap.size ≤ j⟩ wx G F cap qs) ∧ Aside0 (Start (rows.take i) qs))
  case atStart => exact ⟨0, w.heap.size, 0, [], rfl, ⟨rfl, Nat.zero_le _, by unfold maxLen; omega⟩, HF0, ⟨start_nil⟩⟩
  case round =>
    clear HF0
    obtain ⟨i, F, cap, qs, rfl, HI, HF, HS⟩ := hrel
    by_cases hi : i < rows.length
    · have d1 : decide (i < rows.length) = true := decide_eq_true hi
      have g2 : (i : Int) < (rows.length : Int) := by omega
      obtain ⟨ad, B, cc, rfl, r9, r1, r2⟩ := row_at HR.out hi
      have r0 := (World.cell?_of_block (HF.out.old.block _ (World.block_lt_of_cell? _ _ r9))).trans r9
      obtain ⟨l, hll⟩ : ∃ l, rows[i] = l := ⟨_, rfl⟩
      rw [hll] at r0 r1 r2
      have HI2 := Aside0.mk hi
      by_cases h0 : 0 < l.length
      · have d2 : decide (0 < l.length) = true := decide_eq_true h0
        have HP := Aside0.mk (push_calls (q := ⟨⟨(i : Int), B, l.length, cc⟩, l⟩) (fun j hj => hj) HF.out HI.out.2.2 (by have := start_len HS.out; rw [List.length_take] at this; have := HL.out; omega) ⟨h0, rfl, r2, r1⟩)
        have HS2 := Aside0.mk (start_push (x := ⟨(i : Int), B, l.length, cc⟩) HS.out hi hll h0 rfl)
        clear hi hll h0 r1 r2 r9
        go_wp2_with fail
        refine HP.out.mono ?_
        rintro en w2 ⟨⟨u, rfl⟩, F', cap', hc', hf⟩
        have HF2 := Aside0.mk hf
        have HC2 := Aside0.mk hc'
        clear hf hc' HP HF HS
        go_wp2_with fail
        go_roundg (rows.length - (i + 1))
        case measure => have := HI.out; have := HI2.out; omega
        case rel => exact ⟨i + 1, F', cap', _, by go_num, ⟨rfl, HI2.out, HC2.out⟩, HF2, HS2⟩
      · have d2 : decide (0 < l.length) = false := decide_eq_false h0
        have HS2 := Aside0.mk (start_skip HS.out hi hll h0)
        clear hi hll h0 r1 r2 r9
        go_wp2_with fail
        go_roundg (rows.length - (i + 1))
        case measure => have := HI.out; have := HI2.out; omega
        case rel => exact ⟨i + 1, F, cap, qs, by go_num, ⟨rfl, HI2.out, HI.out.2.2⟩, HF, HS2⟩
    · have d1 : decide (i < rows.length) = false := decide_eq_false hi
      have HS2 := Aside0.mk (show Start rows qs by have := HS.out; rw [List.take_of_length_le (by omega)] at this; exact this)
      have HST := Aside0.mk (HCB.out.stay HI0.out (fun k hk => HF.out.mark.block k (HCB.out.low HI0.out k hk).2 (fun h => by have := (HCB.out.low HI0.out k hk).2; omega)) HF.out.mark.size)
      have HGF := Aside0.mk (show ¬ M G ∧ ¬ M F from ⟨fun h => by have := (HCB.out.low HI0.out _ h).2; have := HF.out.inS.1; omega, fun h => by have := (HCB.out.low HI0.out _ h).2; have := HF.out.inS.2; omega⟩)
      have HFM := Aside0.mk HF.out.marked
      clear hi HS HI HF
      go_wp2_with fail
      go_loopg [7, 8] (total qs) (fun kq v7 v8 wx => ∃ (qq : List Qu) (last : Option ByteArray) (L : List (Int × S32)) (M' : Nat → Prop), v7 = .string (seenK last) ∧ v8 = .bool last.isSome ∧ Aside0 (kq = total qq ∧ total qq + L.length ≤ 100000 ∧ Heap qq) ∧ Aside0 (Front (GH w0 wx G F) wx G F cap qq) ∧ Aside0 (I wx L M' ∧ ¬ M' G ∧ ¬ M' F) ∧ Aside0 (runL go (total qq) qq last L = runL go (total qs) qs none []))
      case atStart => exact ⟨qs, none, [], M, rfl, rfl, ⟨rfl, by have := start_total HS2.out; have := HT.out; refine ⟨by simp; omega, HS2.out.1⟩⟩, HFM, ⟨HST.out, HGF.out⟩, ⟨rfl⟩⟩
      case round =>
        clear HFM HST HGF
        obtain ⟨qq, last, L, M', rfl, rfl, HI, HF, HM, HU⟩ := hrel
        have k0 := HF.out.cell
        cases qq with
        | nil =>
          go_wp2_with fail
          refine (len_calls (some ⟨F, 0, none⟩) 0 cap _).mono ?_
          rintro en w2 ⟨rfl, rfl⟩
          go_wp2_with fail
          exact bodyPost_end (results_none rfl _ _ _) rfl ⟨⟨_, rfl⟩, qs, M', HS2.out, by rw [← HU.out]; exact HM.out.1, HF.out.old⟩
        | cons q t =>
          rw [List.length_cons] at k0
          obtain ⟨r1, r2, r3, r4⟩ := HF.out.rows q (by simp)
          obtain ⟨a0, a1⟩ := HF.out.fr.cell (i := 0) (by simp)
          simp only [List.map_cons, List.getElem_cons_zero, Nat.zero_mul, Nat.zero_add] at a0 a1
          have g0 : decide (0 < t.length + 1) = true := decide_eq_true (by omega)
          have g3 : (0 : Int) < (t.length : Int) + 1 := by omega
          obtain ⟨p, ep, p0, p1⟩ := pair_at (Kd.C_below r3 HF.out.old) (by omega) r1
          rw [Nat.zero_mul, add_none] at p0 p1
          have hhd := head_at r1
          rw [hhd] at p0 p1
          obtain ⟨P, hP⟩ : ∃ P, q.l.headD z32 = P := ⟨_, rfl⟩
          rw [hP] at p0 p1
          have hkey : q.key = P.f0 := by unfold Qu.key; rw [hP]
          have HK := Aside0.mk (And.intro hP hkey)
          have HNH := Aside0.mk (next_heap HI.out.2.2)
          have HNT := Aside0.mk (next_total HI.out.2.2 r1)
          have HU := Aside0.mk ((runL_step go HI.out.2.2 r1 last L).symm.trans HU.out)
          rw [ep] at a1
          have g4 : (0 : Int) < (q.x.n : Int) := by omega
          clear r1 r2 r3 r4 hhd hP hkey ep
          generalize q.x.n = qn at a1 g4
          generalize q.x.c = qc at a1
          obtain ⟨row, hrow⟩ : ∃ row, q.x.row = row := ⟨_, rfl⟩
          rw [hrow] at a0
          have HROW := Aside0.mk hrow
          clear hrow
          go_upto_region 10 with (go_at_call 21; refine (len_calls (some ⟨F, 0, none⟩) (t.length + 1) cap _).mono ?_; rintro en w2 ⟨rfl, rfl⟩)
          go_upto_region 11 with fail
          have hba := below_alloc (Below.refl wr.heap.size wr) (.cells #[.int .i64 row, .slice (some p) qn qc] 44)
          have HT1 := Aside0.mk (blk_new wr (.cells #[.int .i64 row, .slice (some p) qn qc] 44))
          have HF1 := Aside0.mk (HF.out.mono hba)
          have HM1 := Aside0.mk (HCB.out.stay HM.out.1 (fun k hk => hba.block k (HCB.out.low HM.out.1 k hk).2) hba.size)
          have HMN := Aside0.mk HM.out.2
          have hp := World.block_lt_of_cell? _ _ p0
          replace p0 := (World.cell?_of_block (hba.block _ hp)).trans p0
          replace p1 := (World.cell?_of_block (w' := wr.alloc (.cells #[.int .i64 row, .slice (some p) qn qc] 44)) (a := ⟨p.block, p.off + 1, none⟩) (hba.block _ hp)).trans p1
          clear hba hp a0 a1 k0 HF HM
          generalize wr.alloc (.cells #[.int .i64 row, .slice (some p) qn qc] 44) = w2 at HT1 HF1 HM1 p0 p1 ⊢
          have HGH := Aside0.mk (show Front (GH w0 w2 G F) w2 G F cap (q :: t) from HF1.out.marked)
          clear HF1
          obtain ⟨X, hX⟩ : ∃ X, wr.heap.size = X := ⟨_, rfl⟩
          rw [hX] at HT1 ⊢
          clear hX
          have x0 := (blk_cell HT1.out 0).trans rfl
          have x1 := (blk_cell HT1.out 1).trans rfl
          go_upto_region 12 with fail
          have hba := below_alloc (Below.refl w2.heap.size w2) (.cells #[.string P.f0, .string P.f1] 32)
          have HT2 := Aside0.mk (blk_new w2 (.cells #[.string P.f0, .string P.f1] 32))
          have HT1 := Aside0.mk ((hba.block X (blk_lt HT1.out)).trans HT1.out)
          have HF2 := Aside0.mk (HGH.out.mono hba)
          have HM2 := Aside0.mk (HCB.out.stay HM1.out (fun k hk => hba.block k (HCB.out.low HM1.out k hk).2) hba.size)
          clear hba HGH HM1 p0 p1 x0 x1
          generalize w2.alloc (.cells #[.string P.f0, .string P.f1] 32) = w3 at HT1 HT2 HF2 HM2 ⊢
          have HGH := Aside0.mk (show Front (GH w0 w3 G F) w3 G F cap (q :: t) from HF2.out.marked)
          clear HF2
          obtain ⟨Y, hY⟩ : ∃ Y, w2.heap.size = Y := ⟨_, rfl⟩
          rw [hY] at HT2 ⊢
          clear hY
          have x0 := (blk_cell HT1.out 0).trans rfl
          have x1 := (blk_cell HT1.out 1).trans rfl
          have y0 := (blk_cell HT2.out 0).trans rfl
          have y1 := (blk_cell HT2.out 1).trans rfl
          have HLT := Aside0.mk (And.intro (blk_lt HT1.out) (blk_lt HT2.out))
          have HIL := Aside0.mk (show L.length < 1000000 from by have := HI.out.2.1; omega)
          by_cases hs : last = some P.f0
          · subst hs
            have HU := Aside0.mk ((if_pos (by rw [HK.out.2])).symm.trans HU.out)
            rw [show seenK (some P.f0) = P.f0 from rfl, show (some P.f0).isSome = true from rfl]
            have HP := Aside0.mk (next_calls HGH.out)
            have hk : (P.f0.toList == P.f0.toList) = true := beq_self_eq_true _
            go_wp2_with fail
            refine HP.out.mono ?_
            rintro en w5 ⟨⟨u, rfl⟩, hf⟩
            have HM5 := Aside0.mk (HCB.out.stay HM2.out (fun k hk => hf.mark.block k (HCB.out.low HM2.out k hk).2 (fun h => h.elim (fun h => HMN.out.1 (h ▸ hk)) (fun h => HMN.out.2 (h ▸ hk)))) hf.mark.size)
            have HF5 := Aside0.mk (show Front (GH w0 w5 G F) w5 G F cap (nextL (q :: t)) from hf.marked)
            clear hf HP HM2 HGH x0 x1 y0 y1
            go_wp2_with fail
            go_roundg (total (nextL (q :: t)))
            case measure => have := HNT.out; have := HI.out; omega
            case rel => exact ⟨_, some P.f0, L, M', rfl, rfl, ⟨rfl, by have := HNT.out; have := HI.out.2.1; omega, HNH.out⟩, HF5, ⟨HM5.out, HMN.out⟩, HU⟩
          · have HU2 := Aside0.mk ((if_neg (by rw [HK.out.2]; exact hs)).symm.trans HU.out)
            clear HU
            have HC := Aside0.mk (HCB.out.call row P HM2.out HGH.out.old HIL.out)
            rcases last with _ | kk
            case' none =>
              rw [show seenK (none : Option ByteArray) = ⟨#[]⟩ from rfl, show (none : Option ByteArray).isSome = false from rfl]
              go_upto_region 14 with fail
            case' some =>
              have hk := str_ne (fun h => hs (by rw [h]) : P.f0 ≠ kk)
              rw [show seenK (some kk) = kk from rfl, show (some kk).isSome = true from rfl]
              go_upto_region 14 with fail
            all_goals
              clear hs
              go_wp2_with fail
              rw [HCB.out.enter, Oper.upon_enter]
              refine HC.out.mono ?_
              rintro en w4 ⟨rfl, M2, hi2, hm2, hk2⟩
              have HM4 := Aside0.mk hi2
              have HMN4 := Aside0.mk (show ¬ M2 G ∧ ¬ M2 F from ⟨fun h => (hm2 _ h).elim HMN.out.1 (fun h => by have := blk_lt HGH.out.ex; omega), fun h => (hm2 _ h).elim HMN.out.2 (fun h => by have := HGH.out.fr.lt; omega)⟩)
              have HF4 := Aside0.mk (HGH.out.turned hk2 (fun k hk => (HCB.out.low HM2.out k hk).1) HMN.out.1 HMN.out.2)
              have HX4 := Aside0.mk (HROW.out)
              obtain ⟨L2, hL2⟩ : ∃ L2, L ++ [(row, P)] = L2 := ⟨_, rfl⟩
              have hll : L2.length = L.length + 1 := by rw [← hL2]; simp
              rw [hL2] at HM4 ⊢
              rw [HROW.out, HK.out.1, HK.out.2, hL2] at HU2
              have HLL := Aside0.mk hll
              have hp0 := next_calls HF4.out
              have HP := Aside0.mk hp0
              clear hi2 hm2 hk2 hL2 hll HC HM2 HMN HGH HX4 hp0 x0 x1 y0 y1
              cases hgo : go L2
              · have HU := Aside0.mk ((if_neg (by rw [hgo]; decide)).symm.trans HU2.out)
                clear hgo
                go_wp2_with fail
                exact bodyPost_ret (results_none rfl _ _ _) rfl ⟨⟨_, rfl⟩, qs, M2, HS2.out, by rw [← HU.out]; exact HM4.out, HF4.out.old⟩
              · have HU := Aside0.mk ((if_pos hgo).symm.trans HU2.out)
                clear hgo
                go_wp2_with fail
                refine HP.out.mono ?_
                rintro en w5 ⟨⟨u, rfl⟩, hf⟩
                have HM5 := Aside0.mk (HCB.out.stay HM4.out (fun k hk => hf.mark.block k (HCB.out.low HM4.out k hk).2 (fun h => h.elim (fun h => HMN4.out.1 (h ▸ hk)) (fun h => HMN4.out.2 (h ▸ hk)))) hf.mark.size)
                have HF5 := Aside0.mk (show Front (GH w0 w5 G F) w5 G F cap (nextL (q :: t)) from hf.marked)
                clear hf HP HM4 HF4
                go_wp2_with fail
                go_roundg (total (nextL (q :: t)))
                case measure => have := HNT.out; have := HI.out; omega
                case rel => exact ⟨_, some P.f0, L2, M2, rfl, rfl, ⟨rfl, by have := HNT.out; have := HI.out.2.1; have := HLL.out; omega, HNH.out⟩, HF5, ⟨HM5.out, HMN4.out⟩, HU⟩
end Go.Proofs.Ytcdgenoakpmlbaa.Mix
