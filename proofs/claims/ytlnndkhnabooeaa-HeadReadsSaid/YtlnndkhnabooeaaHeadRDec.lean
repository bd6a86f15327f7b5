/- The reference's Decode: what its call comes to. -/
import Derived.Test.YtlnndkhnabooeaaHeadEq
namespace Go.Proofs.Ytlnndkhnabooeaa.Head
open Go.RowKit Go.Proofs.YtlnndkhnabooeaaW.PrintWords Go.Proofs.YtlnndkhnabooeaaW.PrintLast Go.Proofs.YtlnndkhnabooeaaW.PrintMore
open Go.Proofs.Ytlnndkhnabooeaa Go.Proofs.Ytlnndkhnabooeaa.Vals Go.Proofs.Ytlnndkhnabooeaa.Word Go.Proofs.Ytlnndkhnabooeaa.Q Go.Proofs.Ytlnndkhnabooeaa.Math
set_option linter.unusedVariables false
set_option linter.unusedSimpArgs false

theorem info_int : (Try.prog.info? 3).map (fun i => (i.zero, i.size, i.bytes)) = some (some (.int .i64 0), 1, 8) := by kernel_rfl
def rdecV (b : List Int) : Value := .tuple #[if isHd b then (hdOf b).v else noHd, .bool (decide (isHd b))]
theorem rdec_no {b : List Int} (h : ¬ isHd b) : rdecV b = .tuple #[noHd, .bool false] := by
  unfold rdecV
  rw [if_neg h, decide_eq_false h]
theorem u32w {x : Int} (h0 : 0 ≤ x) (h1 : x < 4294967296) : IntKind.u32.wrap x = x := by
  simp [IntKind.wrap, IntKind.signed, IntKind.bits]; omega
theorem at4_bd {b : List Int} (h : Byte b) (i : Nat) : 0 ≤ at4 b i ∧ at4 b i < 4294967296 := num4_bd ((h.drop _).take 4) (by rw [List.length_take]; omega)
theorem num_next {b : List Int} {i k : Nat} (h : 8 + 4 * i + k < b.length) : num ((b.drop (8 + 4 * i)).take (k + 1)) = num ((b.drop (8 + 4 * i)).take k) * 256 + b[8 + 4 * i + k] := by
  rw [List.take_succ_eq_append_getElem (by rw [List.length_drop]; omega), num_snoc, List.getElem_drop]
theorem num_part {b : List Int} (h : Byte b) (i k : Nat) (hk : k ≤ 4) : 0 ≤ num ((b.drop (8 + 4 * i)).take k) ∧ num ((b.drop (8 + 4 * i)).take k) < 4294967296 := num4_bd ((h.drop _).take k) (by rw [List.length_take]; omega)

theorem str_get {b : List Int} (hb : Byte b) {j : Nat} (h : j < (strOfNums b).size) : (((strOfNums b)[j]).toNat : Int) = b[j]'(by rw [strOfNums_size] at h; exact h) := by
  have hj : j < b.length := by rw [strOfNums_size] at h; exact h
  have hbj := hb _ (List.getElem_mem hj)
  have e : (strOfNums b)[j] = UInt8.ofNat (b[j]).toNat := by
    show (strOfNums b).data[j] = _
    simp [strOfNums]
  rw [e, UInt8.toNat_ofNat', Nat.mod_eq_of_lt (by omega)]
  omega
theorem str_step {b : List Int} (hb : Byte b) (i k : Nat) (hk : k < 4) (h : 8 + 4 * i + k < (strOfNums b).size) :
    wrap64 (256 * num ((b.drop (8 + 4 * i)).take k) + wrap64 (((strOfNums b)[8 + 4 * i + k]).toNat : Int)) = num ((b.drop (8 + 4 * i)).take (k + 1)) := by
  have hj : 8 + 4 * i + k < b.length := by rw [strOfNums_size] at h; exact h
  have hbj := hb _ (List.getElem_mem hj)
  have hn := num_part hb i k (by omega)
  rw [str_get hb h, num_next hj, w64 (x := b[8 + 4 * i + k]) (by omega) (by omega), w64 (by omega) (by omega)]
  omega

theorem str_beq {a b : List Int} (ha : By a) (hb : By b) (h : a ≠ b) : ((strOfNums a).toList == (strOfNums b).toList) = false := by
  rw [beq_eq_false_iff_ne]
  intro e
  rw [Lib.strOfNums_toList, Lib.strOfNums_toList] at e
  refine h (str_inj ha hb ?_)
  show ByteArray.mk (Lib.bytesOf a).toArray = ByteArray.mk (Lib.bytesOf b).toArray
  rw [e]

set_option maxHeartbeats 4000000 in
set_option maxRecDepth 100000 in
theorem rdec_calls {b : List Int} (hby : Byte b) (hl : b.length ≤ 140737488351232) (w : World) : Calls Try.prog 13 #[.string (strOfNums b)] w fun e w' => e = .returned (rdecV b) ∧ Below w.heap.size w w' := by
  have HBB := Aside0.mk hby
  have hsz : (strOfNums b).size = b.length := strOfNums_size b
  have HSZ := Aside0.mk hsz
  have HZ := Aside0.mk (show (w.alloc (.cells (hcells fun _ => 0) 32)).heap[w.heap.size]? = some (.cells (hcells fun _ => 0) 32 (0, 0)) from blk_new w _)
  have HB := Aside0.mk (below_alloc (Below.refl w.heap.size w) (.cells (hcells fun _ => 0) 32))
  have HZC := Aside0.mk (hcells_all HZ.out)
  unfold hcells at HZ HB HZC
  clear hby
  obtain ⟨N, hN⟩ : ∃ N, w.heap.size = N := ⟨_, rfl⟩
  have HN := Aside0.mk hN
  rw [hN] at HZ HZC
  by_cases h64 : b.length < 64
  · have HDV := Aside0.mk (rdec_no (fun h : isHd b => by have := isHd_64 h; omega))
    have g1 : decide (((strOfNums b).size : Int) < 64) = true := decide_eq_true (by rw [hsz]; omega)
    generalize strOfNums b = s at g1 ⊢
    clear hsz h64 HSZ
    go_enter Try.func13, Try.ntmps13
    go_upto_region 1 with fail
    clear hN
    generalize w.alloc (.cells #[.int .i64 0, .int .i64 0, .int .i64 0, .int .i64 0, .int .i64 0, .int .i64 0, .int .i64 0, .int .i64 0, .int .u32 0, .int .i64 0] 32) = w1 at HZ HB HZC ⊢
    obtain ⟨z0, z1, z2, z3, z4, z5, z6, z7, z8, z9⟩ := HZC.out
    have zf := fun i => blk_frozen HZ.out i
    go_wp2_with fail
    have hfin := ten_put HZ.out (.int .i64 0) (.int .i64 0) (.int .i64 0) (.int .i64 0) (.int .i64 0) (.int .i64 0) (.int .i64 0) (.int .i64 0) (.int .u32 0) (.int .i64 0)
    refine bodyPost_ret (results_ct rfl _ _ N 32 #[.int .i64 0, .int .i64 0, .int .i64 0, .int .i64 0, .int .i64 0, .int .i64 0, .int .i64 0, .int .i64 0, .int .u32 0, .int .i64 0] (0, 0) _ rfl hfin.1 Try.underlying32 rfl (by kernel_rfl)) rfl ⟨?_, ?_⟩
    · rw [HDV.out]; rfl
    · exact Keeps.below_then HB.out (Nat.le_refl _) hfin.2 (fun j hj => by have h1 : j = N := hj; have := HN.out; omega)
  · have g1 : decide (((strOfNums b).size : Int) < 64) = false := decide_eq_false (by rw [hsz]; omega)
    have HL := Aside0.mk (show 64 ≤ b.length ∧ b.length ≤ 140737488351232 from ⟨by omega, hl⟩)
    clear hsz h64 hl
    go_enter Try.func13, Try.ntmps13
    go_upto_region 1 with fail
    clear hN
    generalize w.alloc (.cells #[.int .i64 0, .int .i64 0, .int .i64 0, .int .i64 0, .int .i64 0, .int .i64 0, .int .i64 0, .int .i64 0, .int .u32 0, .int .i64 0] 32) = w1 at HZ HB HZC ⊢
    go_wp2_with fail
    clear g1
    have HR0 := Aside0.mk (R_empty (Kd.int .i64) w1 w1.heap.size 3 (Nat.le_refl _))
    have HZ2 := Aside0.mk (blk_below HZ.out (below_alloc (Below.refl _ _) (.cells #[] 3)))
    have HB2 := Aside0.mk (below_alloc HB.out (.cells #[] 3))
    have HBS := Aside0.mk (show w.heap.size ≤ w1.heap.size ∧ N < w1.heap.size from ⟨HB.out.size, blk_lt HZ.out⟩)
    have hbs2 : w1.heap.size ≤ (w1.alloc (.cells #[] 3)).heap.size := (below_alloc (Below.refl w1.heap.size w1) (.cells #[] 3)).size
    have HBA := Aside0.mk hbs2
    clear HZ HB HZC hbs2
    generalize w1.alloc (.cells #[] 3) = w2 at HR0 HZ2 HB2 HBA ⊢
    generalize Value.slice (some ⟨w1.heap.size, 0, none⟩) 0 0 = v0 at HR0 ⊢
    generalize w1.heap.size = B at HR0 HBS HBA
    go_loopg [4, 5] 11 (fun kq v4 v5 wx => ∃ (i : Nat), v5 = .int .i64 (i : Int) ∧ Aside0 (kq = 11 - i ∧ i ≤ 10) ∧ Aside0 (Kd.R (Kd.int .i64) 3 wx B (fun _ => True) v4 ((List.range i).map (at4 b))) ∧ Aside0 (B ≤ wx.heap.size) ∧ Aside0 (wx.heap[N]? = some (.cells #[.int .i64 0, .int .i64 0, .int .i64 0, .int .i64 0, .int .i64 0, .int .i64 0, .int .i64 0, .int .i64 0, .int .u32 0, .int .i64 0] 32 (0, 0))) ∧ Aside0 (Below w.heap.size w wx))
    case atStart => exact ⟨0, rfl, ⟨rfl, by omega⟩, HR0, HBA, HZ2, HB2⟩
    case round =>
      clear HR0 HBA HZ2 HB2
      obtain ⟨i, rfl, HI, HR, HBA, HZ, HB⟩ := hrel
      by_cases hi : i < 10
      · have g1 : decide ((i : Int) < 10) = true := decide_eq_true (by omega)
        go_wp2_with fail
        generalize wr = wo at HR HBA HZ HB ⊢
        go_loopg [6, 7] 5 (fun kq v6 v7 wx => ∃ (k : Nat), v6 = .int .i64 (num ((b.drop (8 + 4 * i)).take k)) ∧ v7 = .int .i64 (k : Int) ∧ Aside0 (kq = 5 - k ∧ k ≤ 4) ∧ wx = wo)
        case atStart => exact ⟨0, by simp [num], rfl, ⟨rfl, by omega⟩, rfl⟩
        case round =>
          obtain ⟨k, rfl, rfl, HK, hwo⟩ := hrel
          subst hwo
          by_cases hk : k < 4
          · have g2 : decide ((k : Int) < 4) = true := decide_eq_true (by omega)
            have hnp := num_part HBB.out i k (by omega)
            have hln := HL.out
            have hib : 8 + 4 * i + k < (strOfNums b).size := by rw [HSZ.out]; omega
            have hsi : (8 + 4 * (i : Int) + (k : Int)) < ((strOfNums b).size : Int) := by omega
            have hstep := str_step HBB.out i k (by omega) hib
            clear hnp hln
            have hnp := num_part HBB.out i k (by omega)
            go_wp2_with fail
            go_roundg (4 - k)
            case measure => have := HK.out; omega
            case rel => exact ⟨k + 1, by rw [← hstep], by simp, ⟨by omega, by omega⟩, rfl⟩
          · have g2 : decide ((k : Int) < 4) = false := decide_eq_false (by omega)
            obtain rfl : k = 4 := by have := HK.out; omega
            clear hk
            go_wp2_with (first | (at_builtin; refine Kd.R_append (Kd.int .i64) (w0 := wr) B rfl (.tmp 33) (.tmp 35) 54 3 (.int .i64 0) 8 rfl Try.underlying54 info_int rfl (by decide) (by omega) u4 ((List.range i).map (at4 b)) (at4 b i) [.int .i64 (at4 b i)] (fun _ => True) (fun _ => False) rfl rfl ?aP (fun _ hk => hk.elim) ?aF ?aO ?aB ?aS ?aL ?_; (case aP => rfl); (case aB => exact Below.refl _ _); (case aF => exact (fun _ _ => trivial)); (case aO => exact HR.out); (case aS => exact HBA.out); (case aL => simp; omega); intro v9 w9 ho hb hg hat; have HR9 := Aside0.mk ho; have HB9 := Aside0.mk hb; clear ho hb hg hat))
            go_roundg (10 - i)
            case measure => have := HI.out; omega
            case rel => exact ⟨i + 1, by simp, ⟨by omega, by omega⟩, ⟨by rw [List.range_succ, List.map_append]; exact HR9.out⟩, ⟨Nat.le_trans HBA.out HB9.out.size⟩, ⟨(HB9.out.block N HBS.out.2).trans HZ.out⟩,
              ⟨HB9.out.os.trans HB.out.os, HB9.out.tape.trans HB.out.tape, HB9.out.output.trans HB.out.output, Nat.le_trans HB.out.size HB9.out.size, fun k hk => (HB9.out.block k (Nat.lt_of_lt_of_le hk HBS.out.1)).trans (HB.out.block k hk)⟩⟩
      · have g1 : decide ((i : Int) < 10) = false := decide_eq_false (by omega)
        obtain rfl : i = 10 := by have := HI.out; omega
        clear hi
        obtain ⟨A, c, rfl, hc, hC⟩ := Kd.R_reads HR.out
        obtain ⟨ad, rfl, _⟩ := hC.2.2 (by simp)
        obtain ⟨g, rfl⟩ := Kd.R_head HR.out
        have HLC := Aside0.mk (show ∀ j, j < 10 → wr.cell? ⟨g, j, none⟩ = some (.int .i64 (at4 b j)) from fun j hj => by
          have h1 := (Kd.R_celln (0 : Int) HR.out (j : Int) (by omega) (by simp; omega)).1
          rw [Int.toNat_natCast] at h1
          rw [h1]
          congr 2
          simp [rdOf, hj])
        have e10 : ((List.range 10).map (at4 b)).length = 10 := by simp
        rw [e10]
        have HU := Aside0.mk (at4_bd HBB.out 8)
        clear hc hC HR HBA e10
        go_upto_region 13 with fail
        generalize wr = wc at HLC HZ HB ⊢
        have HW0 := Aside0.mk (show (∀ k, wc.heap.size ≤ k → w.heap.size ≤ k) ∧ w.heap.size ≤ N from ⟨fun k h => Nat.le_trans HB.out.size h, by have := HN.out; omega⟩)
        refine Reg.region_store 34 33 32 [] (fun v1 v2 w w' => ∃ (k : Nat), v1 = .pointer (some ⟨k, 0, none⟩) ∧ w' = ((((((((((w.setCell ⟨k, 0, none⟩ (.int .i64 (at4 b 0))).setCell ⟨k, 1, none⟩ (.int .i64 (at4 b 1))).setCell ⟨k, 2, none⟩ (.int .i64 (at4 b 2))).setCell ⟨k, 3, none⟩ (.int .i64 (at4 b 3))).setCell ⟨k, 4, none⟩ (.int .i64 (at4 b 4))).setCell ⟨k, 5, none⟩ (.int .i64 (at4 b 5))).setCell ⟨k, 6, none⟩ (.int .i64 (at4 b 6))).setCell ⟨k, 7, none⟩ (.int .i64 (at4 b 7))).setCell ⟨k, 8, none⟩ (.int .u32 (at4 b 8))).setCell ⟨k, 9, none⟩ (.int .i64 (at4 b 9)))) [Reg.Is (.slice (some ⟨g, 0, none⟩) 10 c), Reg.Is (.pointer (some ⟨g, 0, none⟩)), Reg.Is (.int .i64 (at4 b 0)), Reg.Is (.slice (some ⟨g, 0, none⟩) 10 c), Reg.Is (.pointer (some ⟨g, 1, none⟩)), Reg.Is (.int .i64 (at4 b 1)), Reg.Is (.slice (some ⟨g, 0, none⟩) 10 c), Reg.Is (.pointer (some ⟨g, 2, none⟩)), Reg.Is (.int .i64 (at4 b 2)), Reg.Is (.slice (some ⟨g, 0, none⟩) 10 c), Reg.Is (.pointer (some ⟨g, 3, none⟩)), Reg.Is (.int .i64 (at4 b 3)), Reg.Is (.slice (some ⟨g, 0, none⟩) 10 c), Reg.Is (.pointer (some ⟨g, 4, none⟩)), Reg.Is (.int .i64 (at4 b 4)), Reg.Is (.slice (some ⟨g, 0, none⟩) 10 c), Reg.Is (.pointer (some ⟨g, 5, none⟩)), Reg.Is (.int .i64 (at4 b 5)), Reg.Is (.slice (some ⟨g, 0, none⟩) 10 c), Reg.Is (.pointer (some ⟨g, 6, none⟩)), Reg.Is (.int .i64 (at4 b 6)), Reg.Is (.slice (some ⟨g, 0, none⟩) 10 c), Reg.Is (.pointer (some ⟨g, 7, none⟩)), Reg.Is (.int .i64 (at4 b 7)), Reg.Is (.agg #[.int .i64 (at4 b 0), .int .i64 (at4 b 1), .int .i64 (at4 b 2), .int .i64 (at4 b 3), .int .i64 (at4 b 4), .int .i64 (at4 b 5), .int .i64 (at4 b 6), .int .i64 (at4 b 7)]), Reg.Is (.slice (some ⟨g, 0, none⟩) 10 c), Reg.Is (.pointer (some ⟨g, 8, none⟩)), Reg.Is (.int .i64 (at4 b 8)), Reg.Is (.int .u32 (at4 b 8)), Reg.Is (.slice (some ⟨g, 0, none⟩) 10 c), Reg.Is (.pointer (some ⟨g, 9, none⟩)), Reg.Is (.int .i64 (at4 b 9)), Reg.Is (.agg #[.int .i64 (at4 b 0), .int .i64 (at4 b 1), .int .i64 (at4 b 2), .int .i64 (at4 b 3), .int .i64 (at4 b 4), .int .i64 (at4 b 5), .int .i64 (at4 b 6), .int .i64 (at4 b 7), .int .u32 (at4 b 8), .int .i64 (at4 b 9)]), (fun v w => ∃ k, v = .pointer (some ⟨k, 0, none⟩) ∧ wc.heap.size ≤ k ∧ w.heap[k]? = some (.cells #[.int .i64 0, .int .i64 0, .int .i64 0, .int .i64 0, .int .i64 0, .int .i64 0, .int .i64 0, .int .i64 0, .int .u32 0, .int .i64 0] 32 (0, 0)))]
            [some 37, some 38, some 39, some 40, some 41, some 42, some 43, some 44, some 45, some 46, some 47, some 48, some 49, some 50, some 51, some 52, some 53, some 54, some 55, some 56, some 57, some 58, some 59, some 60, some 61, some 62, some 63, some 64, some 65, some 66, some 67, some 68, some 69, some 8] (by kernel_rfl) (by rfl) (by rfl) (by rfl) (by rfl) rfl (by kernel_rfl) (by kernel_rfl) (by kernel_rfl) ⟨Reg.mono_is _, Reg.mono_is _, Reg.mono_is _, Reg.mono_is _, Reg.mono_is _, Reg.mono_is _, Reg.mono_is _, Reg.mono_is _, Reg.mono_is _, Reg.mono_is _, Reg.mono_is _, Reg.mono_is _, Reg.mono_is _, Reg.mono_is _, Reg.mono_is _, Reg.mono_is _, Reg.mono_is _, Reg.mono_is _, Reg.mono_is _, Reg.mono_is _, Reg.mono_is _, Reg.mono_is _, Reg.mono_is _, Reg.mono_is _, Reg.mono_is _, Reg.mono_is _, Reg.mono_is _, Reg.mono_is _, Reg.mono_is _, Reg.mono_is _, Reg.mono_is _, Reg.mono_is _, Reg.mono_is _, (fun v w w' ⟨k, h1, h2, h3⟩ hb => ⟨k, h1, h2, blk_below h3 hb⟩), trivial⟩ (Reg.noneOkN_of (by rfl)) ⟨?_, ?_, ?_, ?_, ?_, ?_, ?_, ?_, ?_, ?_, ?_, ?_, ?_, ?_, ?_, ?_, ?_, ?_, ?_, ?_, ?_, ?_, ?_, ?_, ?_, ?_, ?_, ?_, ?_, ?_, ?_, ?_, ?_, ?_, trivial⟩ ?_ ?_ ?_
        · intro a w hl   -- 0: slot 37
          have q4 : a.eval (.tmp 4) = .slice (some ⟨g, 0, none⟩) 10 c := hl.out 4 rfl
          have qc : ∀ x, a.eval (.const x) = x := fun _ => rfl
          refine Reg.does_is (x := .slice (some ⟨g, 0, none⟩) 10 c) rfl rfl ?_
          clear hl
          generalize a.eval = ρ at *
          go_simp
        · intro a w hl   -- 1: slot 38
          have q37 : a.eval (.tmp 37) = .slice (some ⟨g, 0, none⟩) 10 c := hl.has 0 rfl
          have qc : ∀ x, a.eval (.const x) = x := fun _ => rfl
          refine Reg.does_is (x := .pointer (some ⟨g, 0, none⟩)) rfl rfl ?_
          clear hl
          generalize a.eval = ρ at *
          go_simp
        · intro a w hl   -- 2: slot 39
          have q38 : a.eval (.tmp 38) = .pointer (some ⟨g, 0, none⟩) := hl.has 1 rfl
          have qc : ∀ x, a.eval (.const x) = x := fun _ => rfl
          refine Reg.does_is (x := .int .i64 (at4 b 0)) rfl rfl ?_
          have kc := (hl.below.cell (World.block_lt_of_cell? wc _ (HLC.out 0 (by decide)))).trans (HLC.out 0 (by decide))
          clear hl
          generalize a.eval = ρ at *
          go_simp
        · intro a w hl   -- 3: slot 40
          have q4 : a.eval (.tmp 4) = .slice (some ⟨g, 0, none⟩) 10 c := hl.out 4 rfl
          have qc : ∀ x, a.eval (.const x) = x := fun _ => rfl
          refine Reg.does_is (x := .slice (some ⟨g, 0, none⟩) 10 c) rfl rfl ?_
          clear hl
          generalize a.eval = ρ at *
          go_simp
        · intro a w hl   -- 4: slot 41
          have q40 : a.eval (.tmp 40) = .slice (some ⟨g, 0, none⟩) 10 c := hl.has 3 rfl
          have qc : ∀ x, a.eval (.const x) = x := fun _ => rfl
          refine Reg.does_is (x := .pointer (some ⟨g, 1, none⟩)) rfl rfl ?_
          clear hl
          generalize a.eval = ρ at *
          go_simp
        · intro a w hl   -- 5: slot 42
          have q41 : a.eval (.tmp 41) = .pointer (some ⟨g, 1, none⟩) := hl.has 4 rfl
          have qc : ∀ x, a.eval (.const x) = x := fun _ => rfl
          refine Reg.does_is (x := .int .i64 (at4 b 1)) rfl rfl ?_
          have kc := (hl.below.cell (World.block_lt_of_cell? wc _ (HLC.out 1 (by decide)))).trans (HLC.out 1 (by decide))
          clear hl
          generalize a.eval = ρ at *
          go_simp
        · intro a w hl   -- 6: slot 43
          have q4 : a.eval (.tmp 4) = .slice (some ⟨g, 0, none⟩) 10 c := hl.out 4 rfl
          have qc : ∀ x, a.eval (.const x) = x := fun _ => rfl
          refine Reg.does_is (x := .slice (some ⟨g, 0, none⟩) 10 c) rfl rfl ?_
          clear hl
          generalize a.eval = ρ at *
          go_simp
        · intro a w hl   -- 7: slot 44
          have q43 : a.eval (.tmp 43) = .slice (some ⟨g, 0, none⟩) 10 c := hl.has 6 rfl
          have qc : ∀ x, a.eval (.const x) = x := fun _ => rfl
          refine Reg.does_is (x := .pointer (some ⟨g, 2, none⟩)) rfl rfl ?_
          clear hl
          generalize a.eval = ρ at *
          go_simp
        · intro a w hl   -- 8: slot 45
          have q44 : a.eval (.tmp 44) = .pointer (some ⟨g, 2, none⟩) := hl.has 7 rfl
          have qc : ∀ x, a.eval (.const x) = x := fun _ => rfl
          refine Reg.does_is (x := .int .i64 (at4 b 2)) rfl rfl ?_
          have kc := (hl.below.cell (World.block_lt_of_cell? wc _ (HLC.out 2 (by decide)))).trans (HLC.out 2 (by decide))
          clear hl
          generalize a.eval = ρ at *
          go_simp
        · intro a w hl   -- 9: slot 46
          have q4 : a.eval (.tmp 4) = .slice (some ⟨g, 0, none⟩) 10 c := hl.out 4 rfl
          have qc : ∀ x, a.eval (.const x) = x := fun _ => rfl
          refine Reg.does_is (x := .slice (some ⟨g, 0, none⟩) 10 c) rfl rfl ?_
          clear hl
          generalize a.eval = ρ at *
          go_simp
        · intro a w hl   -- 10: slot 47
          have q46 : a.eval (.tmp 46) = .slice (some ⟨g, 0, none⟩) 10 c := hl.has 9 rfl
          have qc : ∀ x, a.eval (.const x) = x := fun _ => rfl
          refine Reg.does_is (x := .pointer (some ⟨g, 3, none⟩)) rfl rfl ?_
          clear hl
          generalize a.eval = ρ at *
          go_simp
        · intro a w hl   -- 11: slot 48
          have q47 : a.eval (.tmp 47) = .pointer (some ⟨g, 3, none⟩) := hl.has 10 rfl
          have qc : ∀ x, a.eval (.const x) = x := fun _ => rfl
          refine Reg.does_is (x := .int .i64 (at4 b 3)) rfl rfl ?_
          have kc := (hl.below.cell (World.block_lt_of_cell? wc _ (HLC.out 3 (by decide)))).trans (HLC.out 3 (by decide))
          clear hl
          generalize a.eval = ρ at *
          go_simp
        · intro a w hl   -- 12: slot 49
          have q4 : a.eval (.tmp 4) = .slice (some ⟨g, 0, none⟩) 10 c := hl.out 4 rfl
          have qc : ∀ x, a.eval (.const x) = x := fun _ => rfl
          refine Reg.does_is (x := .slice (some ⟨g, 0, none⟩) 10 c) rfl rfl ?_
          clear hl
          generalize a.eval = ρ at *
          go_simp
        · intro a w hl   -- 13: slot 50
          have q49 : a.eval (.tmp 49) = .slice (some ⟨g, 0, none⟩) 10 c := hl.has 12 rfl
          have qc : ∀ x, a.eval (.const x) = x := fun _ => rfl
          refine Reg.does_is (x := .pointer (some ⟨g, 4, none⟩)) rfl rfl ?_
          clear hl
          generalize a.eval = ρ at *
          go_simp
        · intro a w hl   -- 14: slot 51
          have q50 : a.eval (.tmp 50) = .pointer (some ⟨g, 4, none⟩) := hl.has 13 rfl
          have qc : ∀ x, a.eval (.const x) = x := fun _ => rfl
          refine Reg.does_is (x := .int .i64 (at4 b 4)) rfl rfl ?_
          have kc := (hl.below.cell (World.block_lt_of_cell? wc _ (HLC.out 4 (by decide)))).trans (HLC.out 4 (by decide))
          clear hl
          generalize a.eval = ρ at *
          go_simp
        · intro a w hl   -- 15: slot 52
          have q4 : a.eval (.tmp 4) = .slice (some ⟨g, 0, none⟩) 10 c := hl.out 4 rfl
          have qc : ∀ x, a.eval (.const x) = x := fun _ => rfl
          refine Reg.does_is (x := .slice (some ⟨g, 0, none⟩) 10 c) rfl rfl ?_
          clear hl
          generalize a.eval = ρ at *
          go_simp
        · intro a w hl   -- 16: slot 53
          have q52 : a.eval (.tmp 52) = .slice (some ⟨g, 0, none⟩) 10 c := hl.has 15 rfl
          have qc : ∀ x, a.eval (.const x) = x := fun _ => rfl
          refine Reg.does_is (x := .pointer (some ⟨g, 5, none⟩)) rfl rfl ?_
          clear hl
          generalize a.eval = ρ at *
          go_simp
        · intro a w hl   -- 17: slot 54
          have q53 : a.eval (.tmp 53) = .pointer (some ⟨g, 5, none⟩) := hl.has 16 rfl
          have qc : ∀ x, a.eval (.const x) = x := fun _ => rfl
          refine Reg.does_is (x := .int .i64 (at4 b 5)) rfl rfl ?_
          have kc := (hl.below.cell (World.block_lt_of_cell? wc _ (HLC.out 5 (by decide)))).trans (HLC.out 5 (by decide))
          clear hl
          generalize a.eval = ρ at *
          go_simp
        · intro a w hl   -- 18: slot 55
          have q4 : a.eval (.tmp 4) = .slice (some ⟨g, 0, none⟩) 10 c := hl.out 4 rfl
          have qc : ∀ x, a.eval (.const x) = x := fun _ => rfl
          refine Reg.does_is (x := .slice (some ⟨g, 0, none⟩) 10 c) rfl rfl ?_
          clear hl
          generalize a.eval = ρ at *
          go_simp
        · intro a w hl   -- 19: slot 56
          have q55 : a.eval (.tmp 55) = .slice (some ⟨g, 0, none⟩) 10 c := hl.has 18 rfl
          have qc : ∀ x, a.eval (.const x) = x := fun _ => rfl
          refine Reg.does_is (x := .pointer (some ⟨g, 6, none⟩)) rfl rfl ?_
          clear hl
          generalize a.eval = ρ at *
          go_simp
        · intro a w hl   -- 20: slot 57
          have q56 : a.eval (.tmp 56) = .pointer (some ⟨g, 6, none⟩) := hl.has 19 rfl
          have qc : ∀ x, a.eval (.const x) = x := fun _ => rfl
          refine Reg.does_is (x := .int .i64 (at4 b 6)) rfl rfl ?_
          have kc := (hl.below.cell (World.block_lt_of_cell? wc _ (HLC.out 6 (by decide)))).trans (HLC.out 6 (by decide))
          clear hl
          generalize a.eval = ρ at *
          go_simp
        · intro a w hl   -- 21: slot 58
          have q4 : a.eval (.tmp 4) = .slice (some ⟨g, 0, none⟩) 10 c := hl.out 4 rfl
          have qc : ∀ x, a.eval (.const x) = x := fun _ => rfl
          refine Reg.does_is (x := .slice (some ⟨g, 0, none⟩) 10 c) rfl rfl ?_
          clear hl
          generalize a.eval = ρ at *
          go_simp
        · intro a w hl   -- 22: slot 59
          have q58 : a.eval (.tmp 58) = .slice (some ⟨g, 0, none⟩) 10 c := hl.has 21 rfl
          have qc : ∀ x, a.eval (.const x) = x := fun _ => rfl
          refine Reg.does_is (x := .pointer (some ⟨g, 7, none⟩)) rfl rfl ?_
          clear hl
          generalize a.eval = ρ at *
          go_simp
        · intro a w hl   -- 23: slot 60
          have q59 : a.eval (.tmp 59) = .pointer (some ⟨g, 7, none⟩) := hl.has 22 rfl
          have qc : ∀ x, a.eval (.const x) = x := fun _ => rfl
          refine Reg.does_is (x := .int .i64 (at4 b 7)) rfl rfl ?_
          have kc := (hl.below.cell (World.block_lt_of_cell? wc _ (HLC.out 7 (by decide)))).trans (HLC.out 7 (by decide))
          clear hl
          generalize a.eval = ρ at *
          go_simp
        · intro a w hl   -- 24: slot 61
          have q39 : a.eval (.tmp 39) = .int .i64 (at4 b 0) := hl.has 2 rfl
          have q42 : a.eval (.tmp 42) = .int .i64 (at4 b 1) := hl.has 5 rfl
          have q45 : a.eval (.tmp 45) = .int .i64 (at4 b 2) := hl.has 8 rfl
          have q48 : a.eval (.tmp 48) = .int .i64 (at4 b 3) := hl.has 11 rfl
          have q51 : a.eval (.tmp 51) = .int .i64 (at4 b 4) := hl.has 14 rfl
          have q54 : a.eval (.tmp 54) = .int .i64 (at4 b 5) := hl.has 17 rfl
          have q57 : a.eval (.tmp 57) = .int .i64 (at4 b 6) := hl.has 20 rfl
          have q60 : a.eval (.tmp 60) = .int .i64 (at4 b 7) := hl.has 23 rfl
          have qc : ∀ x, a.eval (.const x) = x := fun _ => rfl
          refine Reg.does_is (x := .agg #[.int .i64 (at4 b 0), .int .i64 (at4 b 1), .int .i64 (at4 b 2), .int .i64 (at4 b 3), .int .i64 (at4 b 4), .int .i64 (at4 b 5), .int .i64 (at4 b 6), .int .i64 (at4 b 7)]) rfl rfl ?_
          clear hl
          generalize a.eval = ρ at *
          go_simp
        · intro a w hl   -- 25: slot 62
          have q4 : a.eval (.tmp 4) = .slice (some ⟨g, 0, none⟩) 10 c := hl.out 4 rfl
          have qc : ∀ x, a.eval (.const x) = x := fun _ => rfl
          refine Reg.does_is (x := .slice (some ⟨g, 0, none⟩) 10 c) rfl rfl ?_
          clear hl
          generalize a.eval = ρ at *
          go_simp
        · intro a w hl   -- 26: slot 63
          have q62 : a.eval (.tmp 62) = .slice (some ⟨g, 0, none⟩) 10 c := hl.has 25 rfl
          have qc : ∀ x, a.eval (.const x) = x := fun _ => rfl
          refine Reg.does_is (x := .pointer (some ⟨g, 8, none⟩)) rfl rfl ?_
          clear hl
          generalize a.eval = ρ at *
          go_simp
        · intro a w hl   -- 27: slot 64
          have q63 : a.eval (.tmp 63) = .pointer (some ⟨g, 8, none⟩) := hl.has 26 rfl
          have qc : ∀ x, a.eval (.const x) = x := fun _ => rfl
          refine Reg.does_is (x := .int .i64 (at4 b 8)) rfl rfl ?_
          have kc := (hl.below.cell (World.block_lt_of_cell? wc _ (HLC.out 8 (by decide)))).trans (HLC.out 8 (by decide))
          clear hl
          generalize a.eval = ρ at *
          go_simp
        · intro a w hl   -- 28: slot 65
          have q64 : a.eval (.tmp 64) = .int .i64 (at4 b 8) := hl.has 27 rfl
          have qc : ∀ x, a.eval (.const x) = x := fun _ => rfl
          refine Reg.does_is (x := .int .u32 (at4 b 8)) rfl rfl ?_
          have hu := HU.out
          clear hl
          generalize a.eval = ρ at *
          go_simp
          exact u32w hu.1 hu.2
        · intro a w hl   -- 29: slot 66
          have q4 : a.eval (.tmp 4) = .slice (some ⟨g, 0, none⟩) 10 c := hl.out 4 rfl
          have qc : ∀ x, a.eval (.const x) = x := fun _ => rfl
          refine Reg.does_is (x := .slice (some ⟨g, 0, none⟩) 10 c) rfl rfl ?_
          clear hl
          generalize a.eval = ρ at *
          go_simp
        · intro a w hl   -- 30: slot 67
          have q66 : a.eval (.tmp 66) = .slice (some ⟨g, 0, none⟩) 10 c := hl.has 29 rfl
          have qc : ∀ x, a.eval (.const x) = x := fun _ => rfl
          refine Reg.does_is (x := .pointer (some ⟨g, 9, none⟩)) rfl rfl ?_
          clear hl
          generalize a.eval = ρ at *
          go_simp
        · intro a w hl   -- 31: slot 68
          have q67 : a.eval (.tmp 67) = .pointer (some ⟨g, 9, none⟩) := hl.has 30 rfl
          have qc : ∀ x, a.eval (.const x) = x := fun _ => rfl
          refine Reg.does_is (x := .int .i64 (at4 b 9)) rfl rfl ?_
          have kc := (hl.below.cell (World.block_lt_of_cell? wc _ (HLC.out 9 (by decide)))).trans (HLC.out 9 (by decide))
          clear hl
          generalize a.eval = ρ at *
          go_simp
        · intro a w hl   -- 32: slot 69
          have q61 : a.eval (.tmp 61) = .agg #[.int .i64 (at4 b 0), .int .i64 (at4 b 1), .int .i64 (at4 b 2), .int .i64 (at4 b 3), .int .i64 (at4 b 4), .int .i64 (at4 b 5), .int .i64 (at4 b 6), .int .i64 (at4 b 7)] := hl.has 24 rfl
          have q65 : a.eval (.tmp 65) = .int .u32 (at4 b 8) := hl.has 28 rfl
          have q68 : a.eval (.tmp 68) = .int .i64 (at4 b 9) := hl.has 31 rfl
          have qc : ∀ x, a.eval (.const x) = x := fun _ => rfl
          refine Reg.does_is (x := .agg #[.int .i64 (at4 b 0), .int .i64 (at4 b 1), .int .i64 (at4 b 2), .int .i64 (at4 b 3), .int .i64 (at4 b 4), .int .i64 (at4 b 5), .int .i64 (at4 b 6), .int .i64 (at4 b 7), .int .u32 (at4 b 8), .int .i64 (at4 b 9)]) rfl rfl ?_
          clear hl
          generalize a.eval = ρ at *
          go_simp
        · intro a w hl   -- 33: slot 8
          refine Reg.does_new (x := .pointer (some ⟨w.heap.size, 0, none⟩)) (w' := w.alloc (.cells #[.int .i64 0, .int .i64 0, .int .i64 0, .int .i64 0, .int .i64 0, .int .i64 0, .int .i64 0, .int .i64 0, .int .u32 0, .int .i64 0] 32)) rfl rfl ?_ ⟨_, rfl, hl.below.size, blk_new _ _⟩ (below_alloc (Below.refl _ _) _)
          clear hl
          generalize a.eval = ρ at *
          go_simp
        · intro i hi   -- the free ones
          cases hi
        · intro a w hl   -- the store
          have q8 : (fun v w => ∃ k, v = .pointer (some ⟨k, 0, none⟩) ∧ wc.heap.size ≤ k ∧ w.heap[k]? = some (.cells #[.int .i64 0, .int .i64 0, .int .i64 0, .int .i64 0, .int .i64 0, .int .i64 0, .int .i64 0, .int .i64 0, .int .u32 0, .int .i64 0] 32 (0, 0))) (a.eval (.tmp 8)) w := hl.has 33 rfl
          have q69 : a.eval (.tmp 69) = .agg #[.int .i64 (at4 b 0), .int .i64 (at4 b 1), .int .i64 (at4 b 2), .int .i64 (at4 b 3), .int .i64 (at4 b 4), .int .i64 (at4 b 5), .int .i64 (at4 b 6), .int .i64 (at4 b 7), .int .u32 (at4 b 8), .int .i64 (at4 b 9)] := hl.has 32 rfl
          obtain ⟨k, ep, hk, hz⟩ := q8
          refine ⟨rfl, rfl, _, ?_, ⟨k, ep, rfl⟩⟩
          obtain ⟨z0, z1, z2, z3, z4, z5, z6, z7, z8, z9⟩ := hcells_all (f := fun _ => 0) hz
          have zf := fun i => blk_frozen hz i
          clear hl hz
          generalize a.eval = ρ at *
          go_simp
        · rintro v w w5 hb ⟨e37, e38, e39, e40, e41, e42, e43, e44, e45, e46, e47, e48, e49, e50, e51, e52, e53, e54, e55, e56, e57, e58, e59, e60, e61, e62, e63, e64, e65, e66, e67, e68, e69, e8, _⟩ hW
          replace e37 : v 0 = .slice (some ⟨g, 0, none⟩) 10 c := e37
          replace e38 : v 1 = .pointer (some ⟨g, 0, none⟩) := e38
          replace e39 : v 2 = .int .i64 (at4 b 0) := e39
          replace e40 : v 3 = .slice (some ⟨g, 0, none⟩) 10 c := e40
          replace e41 : v 4 = .pointer (some ⟨g, 1, none⟩) := e41
          replace e42 : v 5 = .int .i64 (at4 b 1) := e42
          replace e43 : v 6 = .slice (some ⟨g, 0, none⟩) 10 c := e43
          replace e44 : v 7 = .pointer (some ⟨g, 2, none⟩) := e44
          replace e45 : v 8 = .int .i64 (at4 b 2) := e45
          replace e46 : v 9 = .slice (some ⟨g, 0, none⟩) 10 c := e46
          replace e47 : v 10 = .pointer (some ⟨g, 3, none⟩) := e47
          replace e48 : v 11 = .int .i64 (at4 b 3) := e48
          replace e49 : v 12 = .slice (some ⟨g, 0, none⟩) 10 c := e49
          replace e50 : v 13 = .pointer (some ⟨g, 4, none⟩) := e50
          replace e51 : v 14 = .int .i64 (at4 b 4) := e51
          replace e52 : v 15 = .slice (some ⟨g, 0, none⟩) 10 c := e52
          replace e53 : v 16 = .pointer (some ⟨g, 5, none⟩) := e53
          replace e54 : v 17 = .int .i64 (at4 b 5) := e54
          replace e55 : v 18 = .slice (some ⟨g, 0, none⟩) 10 c := e55
          replace e56 : v 19 = .pointer (some ⟨g, 6, none⟩) := e56
          replace e57 : v 20 = .int .i64 (at4 b 6) := e57
          replace e58 : v 21 = .slice (some ⟨g, 0, none⟩) 10 c := e58
          replace e59 : v 22 = .pointer (some ⟨g, 7, none⟩) := e59
          replace e60 : v 23 = .int .i64 (at4 b 7) := e60
          replace e61 : v 24 = .agg #[.int .i64 (at4 b 0), .int .i64 (at4 b 1), .int .i64 (at4 b 2), .int .i64 (at4 b 3), .int .i64 (at4 b 4), .int .i64 (at4 b 5), .int .i64 (at4 b 6), .int .i64 (at4 b 7)] := e61
          replace e62 : v 25 = .slice (some ⟨g, 0, none⟩) 10 c := e62
          replace e63 : v 26 = .pointer (some ⟨g, 8, none⟩) := e63
          replace e64 : v 27 = .int .i64 (at4 b 8) := e64
          replace e65 : v 28 = .int .u32 (at4 b 8) := e65
          replace e66 : v 29 = .slice (some ⟨g, 0, none⟩) 10 c := e66
          replace e67 : v 30 = .pointer (some ⟨g, 9, none⟩) := e67
          replace e68 : v 31 = .int .i64 (at4 b 9) := e68
          replace e69 : v 32 = .agg #[.int .i64 (at4 b 0), .int .i64 (at4 b 1), .int .i64 (at4 b 2), .int .i64 (at4 b 3), .int .i64 (at4 b 4), .int .i64 (at4 b 5), .int .i64 (at4 b 6), .int .i64 (at4 b 7), .int .u32 (at4 b 8), .int .i64 (at4 b 9)] := e69
          replace e8 : (fun v w => ∃ k, v = .pointer (some ⟨k, 0, none⟩) ∧ wc.heap.size ≤ k ∧ w.heap[k]? = some (.cells #[.int .i64 0, .int .i64 0, .int .i64 0, .int .i64 0, .int .i64 0, .int .i64 0, .int .i64 0, .int .i64 0, .int .u32 0, .int .i64 0] 32 (0, 0))) (v 33) w := e8
          simp only [Reg.putL, Act.put, List.setIfInBounds_toArray, List.set_cons_zero, List.set_cons_succ, e37, e38, e39, e40, e41, e42, e43, e44, e45, e46, e47, e48, e49, e50, e51, e52, e53, e54, e55, e56, e57, e58, e59, e60, e61, e62, e63, e64, e65, e66, e67, e68, e69]
          clear e37 e38 e39 e40 e41 e42 e43 e44 e45 e46 e47 e48 e49 e50 e51 e52 e53 e54 e55 e56 e57 e58 e59 e60 e61 e62 e63 e64 e65 e66 e67 e68 e69
          obtain ⟨k, v9, hww⟩ := hW
          obtain ⟨k', v9', hk, hz⟩ := e8
          rw [v9] at v9'
          cases v9'
          have HS := Aside0.mk (ten_put hz (.int .i64 (at4 b 0)) (.int .i64 (at4 b 1)) (.int .i64 (at4 b 2)) (.int .i64 (at4 b 3)) (.int .i64 (at4 b 4)) (.int .i64 (at4 b 5)) (.int .i64 (at4 b 6)) (.int .i64 (at4 b 7)) (.int .u32 (at4 b 8)) (.int .i64 (at4 b 9)))
          rw [← hww] at HS
          have HK := Aside0.mk hk
          have HB0 := Aside0.mk hb
          simp only [v9, List.drop_succ_cons, List.drop_zero]
          clear v9 hww hk hz hb
          have HX := Aside0.mk (show HdAt w5 k 32 (hdOf b) from ⟨HS.out.1⟩)
          have HZ5 := Aside0.mk (HS.out.2.blk (blk_below HZ.out HB0.out) (fun h => by have h1 := blk_lt HZ.out; have h2 := HK.out; omega))
          have HB5 := Aside0.mk (Keeps.below_then (below_step HB.out HB0.out) (Nat.le_refl _) HS.out.2 (fun j hj => by have h1 : j = k := hj; subst h1; exact HW0.out.1 _ HK.out))
          have hty : (hdOf b).typed := HU.out
          clear HS HB0 HZ HB HLC
          obtain ⟨x, hx⟩ : ∃ x, hdOf b = x := ⟨_, rfl⟩
          have HXX := Aside0.mk hx
          rw [hx] at HX hty
          have HTY := Aside0.mk hty
          clear hx hty
          obtain ⟨k0, k1, k2, k3, k4, k5, k6, k7, k8, k9⟩ := HX.out.cells
          go_wp2_with fail
          clear k0 k1 k2 k3 k4 k5 k6 k7 k8 k9
          refine (rhright_calls x HTY.out _).mono ?_
          rintro en w6 ⟨rfl, hb⟩
          have HX6 := Aside0.mk (HX.out.below hb)
          have HZ6 := Aside0.mk (blk_below HZ5.out hb)
          have HB6 := Aside0.mk (below_step HB5.out hb)
          clear hb HX HZ5 HB5
          by_cases hr : x.right
          rotate_left
          · rw [decide_eq_false hr]
            have HDV := Aside0.mk (rdec_no (fun h : isHd b => hr (by have := h.2.1; rw [HXX.out] at this; exact this)))
            clear hr
            obtain ⟨z0, z1, z2, z3, z4, z5, z6, z7, z8, z9⟩ := hcells_all (f := fun _ => 0) HZ6.out
            have zf := fun i => blk_frozen HZ6.out i
            go_wp2_with fail
            have hfin := ten_put HZ6.out (.int .i64 0) (.int .i64 0) (.int .i64 0) (.int .i64 0) (.int .i64 0) (.int .i64 0) (.int .i64 0) (.int .i64 0) (.int .u32 0) (.int .i64 0)
            refine bodyPost_ret (results_ct rfl _ _ N 32 #[.int .i64 0, .int .i64 0, .int .i64 0, .int .i64 0, .int .i64 0, .int .i64 0, .int .i64 0, .int .i64 0, .int .u32 0, .int .i64 0] (0, 0) _ rfl hfin.1 Try.underlying32 rfl (by kernel_rfl)) rfl ⟨?_, ?_⟩
            · rw [HDV.out]; rfl
            · exact Keeps.below_then HB6.out (Nat.le_refl _) hfin.2 (fun j hj => by have h1 : j = N := hj; subst h1; exact HW0.out.2)
          · rw [decide_eq_true hr]
            have HRT := Aside0.mk hr
            clear hr
            obtain ⟨k0, k1, k2, k3, k4, k5, k6, k7, k8, k9⟩ := HX6.out.cells
            go_wp2_with fail
            clear k0 k1 k2 k3 k4 k5 k6 k7 k8 k9
            refine (block_calls x HRT.out _).mono ?_
            rintro en w7 ⟨rfl, hb⟩
            have HX7 := Aside0.mk (HX6.out.below hb)
            have HZ7 := Aside0.mk (blk_below HZ6.out hb)
            have HB7 := Aside0.mk (below_step HB6.out hb)
            clear hb HX6 HZ6 HB6
            by_cases heq : x.blk = b
            · have HIS := Aside0.mk (show isHd b from ⟨by have := HL.out; omega, by rw [HXX.out]; exact HRT.out, by rw [HXX.out]; exact heq⟩)
              have HDV := Aside0.mk (show rdecV b = .tuple #[x.v, .bool true] from by unfold rdecV; rw [if_pos HIS.out, decide_eq_true HIS.out, HXX.out])
              rw [heq]
              clear heq
              obtain ⟨z0, z1, z2, z3, z4, z5, z6, z7, z8, z9⟩ := hcells_all (f := fun _ => 0) HZ7.out
              have zf := fun i => blk_frozen HZ7.out i
              obtain ⟨k0, k1, k2, k3, k4, k5, k6, k7, k8, k9⟩ := HX7.out.cells
              generalize strOfNums b = s2 at ⊢
              go_wp2_with fail
              have hfin := ten_put HZ7.out (.int .i64 x.c.blocks) (.int .i64 x.c.bytes) (.int .i64 x.c.frames) (.int .i64 x.c.fan) (.int .i64 x.c.buf) (.int .i64 x.c.leaf) (.int .i64 x.c.key) (.int .i64 x.c.val) (.int .u32 x.root) (.int .i64 x.h)
              refine bodyPost_ret (results_ct rfl _ _ N 32 x.cs (0, 0) _ rfl hfin.1 Try.underlying32 rfl (by kernel_rfl)) rfl ⟨?_, ?_⟩
              · rw [HDV.out]; rfl
              · exact Keeps.below_then HB7.out (Nat.le_refl _) hfin.2 (fun j hj => by have h1 : j = N := hj; subst h1; exact HW0.out.2)
            · have HDV := Aside0.mk (rdec_no (fun h : isHd b => heq (by have := h.2.2; rw [HXX.out] at this; exact this)))
              have hbe := str_beq (by_blk x) HBB.out heq
              clear heq
              generalize strOfNums x.blk = s1 at hbe ⊢
              generalize strOfNums b = s2 at hbe ⊢
              have hne : ¬ (s1.toList = s2.toList) := by rw [beq_eq_false_iff_ne] at hbe; exact hbe
              obtain ⟨z0, z1, z2, z3, z4, z5, z6, z7, z8, z9⟩ := hcells_all (f := fun _ => 0) HZ7.out
              have zf := fun i => blk_frozen HZ7.out i
              go_wp2_with fail
              have hfin := ten_put HZ7.out (.int .i64 0) (.int .i64 0) (.int .i64 0) (.int .i64 0) (.int .i64 0) (.int .i64 0) (.int .i64 0) (.int .i64 0) (.int .u32 0) (.int .i64 0)
              refine bodyPost_ret (results_ct rfl _ _ N 32 #[.int .i64 0, .int .i64 0, .int .i64 0, .int .i64 0, .int .i64 0, .int .i64 0, .int .i64 0, .int .i64 0, .int .u32 0, .int .i64 0] (0, 0) _ rfl hfin.1 Try.underlying32 rfl (by kernel_rfl)) rfl ⟨?_, ?_⟩
              · rw [HDV.out]; rfl
              · exact Keeps.below_then HB7.out (Nat.le_refl _) hfin.2 (fun j hj => by have h1 : j = N := hj; subst h1; exact HW0.out.2)
end Go.Proofs.Ytlnndkhnabooeaa.Head
