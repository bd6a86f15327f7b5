/- A tuple's key, walked. -/
import Derived.Test.YtdekhhimjnockaaDoorTuPlain
namespace Go.Proofs.YtdekhhimjnockaaDoor.Tu
open Go.RowKit Go.Proofs.YtdekhhimjnockaaDoorW.PrintWords Go.Proofs.YtdekhhimjnockaaDoorW.PrintLast Go.Proofs.YtdekhhimjnockaaDoorW.PrintMore
open Go.Proofs.YtdekhhimjnockaaDoor Go.Proofs.YtdekhhimjnockaaDoor.Vals Go.Proofs.YtdekhhimjnockaaDoor.Word Go.Proofs.YtdekhhimjnockaaDoor.Q
set_option linter.unusedVariables false
set_option linter.unusedSimpArgs false

def keyV (l : List S45) : Value := if l.all mayP = true then .tuple #[.string (strOfNums (enc l)), .int .i64 0] else .tuple #[.string ⟨#[]⟩, .int .i64 2]
def MaxL (w : World) : Prop := ∃ m, w.cell? ⟨0, 0, none⟩ = some (.int .i64 m)
theorem MaxL.below {w w' : World} (h : MaxL w) (hb : Below w.heap.size w w') : MaxL w' := by
  obtain ⟨m, hm⟩ := h
  exact ⟨m, (World.cell?_of_block (hb.block 0 (World.block_lt_of_cell? w _ hm))).trans hm⟩
theorem rep_calls {w : World} (h : MaxL w) (s : ByteArray) (hs : s.size ≤ 100000) : Calls Tryd.prog 29 #[.string s, .string ⟨#[0]⟩, .string ⟨#[0, 255]⟩] w fun e w' => e = .returned (.string ⟨(escU s.data.toList).toArray⟩) ∧ Below w.heap.size w w' := by
  obtain ⟨m, hm⟩ := h
  have hc := Lib.countB_mul_le ⟨#[0]⟩ (by decide) s.size s (Nat.le_refl _)
  have h1 : (⟨#[0]⟩ : ByteArray).size = 1 := rfl
  have h2 : (⟨#[0, 255]⟩ : ByteArray).size = 2 := rfl
  rw [h1] at hc
  refine (Sh.Tryd.strings_ReplaceAll s ⟨#[0]⟩ ⟨#[0, 255]⟩ m w (by omega) hm (by decide) (by rw [h2]; omega)).mono ?_
  rintro e w' ⟨rfl, hb⟩
  refine ⟨?_, hb⟩
  rw [show (⟨#[0]⟩ : ByteArray).data.toList = [0] from rfl, show (⟨#[0, 255]⟩ : ByteArray).data.toList = [0, 255] from rfl, rep_all]
theorem append_str {P : Program} {ops : Array Oper} {rest : List Oper} {o : Oper} {a : Act} {Q : Exit → Act → World → Prop} {w0 W : World} (base : Nat) (hgd : o.guard = none) (s x : Operand) (t u e : TypeId)
    (ho : o.op = .call { callee := .builtin .append, args := #[s, x], argTypes := #[t, u] })
    (ht : P.underlying t = some (.slice e)) (hu : P.underlying u = some .string) (hinfo : (P.info? e).map (fun i => (i.zero, i.size, i.bytes)) = some (some (.int .u8 0), 1, 1))
    (v : Value) (xs : List Int) (y : ByteArray) (hs : a.eval s = v) (hx : a.eval x = .string y)
    (HO : (Kd.int .u8).R e W base (fun _ => True) v xs) (HB : Below base w0 W) (hbase : base ≤ W.heap.size) (hl : xs.length + y.size ≤ 140737488355328)
    (h : ∀ v1 w1, (Kd.int .u8).R e w1 base (fun _ => True) v1 (xs ++ bytesOf y) → Below base w0 w1 → wpList P ops Q rest (a.put o.dst v1) w1) :
    wpList P ops Q (o :: rest) a W :=
  print_append_str base hgd s x t u e ho ht hu hinfo v xs y hs hx (Kd.own_of_R HO) HB hbase hl (fun v1 w1 ho1 hb1 hg1 => h v1 w1 (Kd.R_of_own ho1 (fun _ _ => trivial)) hb1)
def KeyPost (w : World) (l : List S45) (e : Ending) (w' : World) : Prop := e = .returned (keyV l) ∧ Below w.heap.size w w'
set_option maxHeartbeats 8000000 in
set_option maxRecDepth 100000 in
theorem key_calls {w : World} {A : Option Addr} {c : Nat} {l : List S45} (h : k45.C w A l.length l) (ho : ∀ p ∈ l, OkP p) (hl : l.length ≤ 100000) (hm : MaxL w) :
    Calls Tryd.prog 10 #[.slice A l.length c] w (KeyPost w l) := by
  have H := Aside0.mk h
  have HO := Aside0.mk ho
  have HL := Aside0.mk hl
  have HM := Aside0.mk hm
  have hal : ((l.length : Nat) : Int) ≤ 100000 := by omega
  clear h ho hl hm
  go_enter Tryd.func10, Tryd.ntmps10
  go_wp2_with fail
  go_loopg [4, 9] l.length (fun kq v4 v9 wx => ∃ i : Nat, v9 = .int .i64 (i : Int) ∧ Aside0 (kq = l.length - i ∧ i ≤ l.length) ∧ Aside0 ((Kd.int .u8).R 5 wx w.heap.size (fun _ => True) v4 (enc (l.take i))) ∧ Aside0 (Below w.heap.size w wx) ∧ Aside0 ((l.take i).all mayP = true))
  case atStart => exact ⟨0, rfl, ⟨rfl, Nat.zero_le _⟩, ⟨Kd.R_nil _ _ _ _ _⟩, ⟨Below.refl _ _⟩, ⟨rfl⟩⟩
  case round =>
    obtain ⟨i, rfl, HI, HR, HB, HA⟩ := hrel
    by_cases hi : i < l.length
    · have t1 : decide (i < l.length) = true := decide_eq_true hi
      have g2 : (i : Int) < (l.length : Int) := by omega
      have hC := Kd.C_below H.out HB.out
      obtain ⟨ad, ep, p0, p1, p2⟩ := at_T45 hC (i : Int) (by omega) (by omega)
      have hrd : rd_T45 l (i : Int) = l[i] := by unfold rd_T45; rw [Int.toNat_natCast, List.getD_eq_getElem?_getD, List.getElem?_eq_getElem hi]; rfl
      rw [hrd, Int.toNat_natCast] at p0 p1 p2
      have hok := HO.out _ (List.getElem_mem hi)
      have hta : (l.take (i + 1)) = l.take i ++ [l[i]] := List.take_succ_eq_append_getElem hi
      obtain ⟨p, hp⟩ : ∃ p, l[i] = p := ⟨_, rfl⟩
      rw [hp] at p0 p1 p2 hok hta
      have HBAD := Aside0.mk (show mayP p = false → keyV l = .tuple #[.string ⟨#[]⟩, .int .i64 2] from fun hb => if_neg (fun ha => by
        have := List.all_eq_true.1 ha _ (List.getElem_mem hi)
        rw [hp, hb] at this
        cases this))
      have HOK := Aside0.mk hok
      have HTA := Aside0.mk hta
      have HI2 := Aside0.mk hi
      have HEL := Aside0.mk (show (enc (l.take i)).length ≤ 200003 * l.length from Nat.le_trans (enc_length (fun q hq => HO.out q (List.mem_of_mem_take hq))) (Nat.mul_le_mul_left _ (by rw [List.length_take]; omega)))
      cases ep
      obtain ⟨f0, f1, f2⟩ := p
      simp only at p0 p1 p2
      clear hi hrd hok hta hC hp
      go_upto_block 2 with fail
      have HB1 := Aside0.mk (below_alloc (Below.refl wr.heap.size wr) (.cells #[.bool f0, .int .u64 f1, .string f2] 45))
      have HT := Aside0.mk (blk_new wr (.cells #[.bool f0, .int .u64 f1, .string f2] 45))
      have HW := Aside0.mk (below_step HB.out HB1.out)
      have HR1 := Aside0.mk (Kd.R_below HR.out HB1.out)
      clear HB HR HB1 p0 p1 p2
      generalize wr.alloc (.cells #[.bool f0, .int .u64 f1, .string f2] 45) = w1 at HT HW HR1 ⊢
      obtain ⟨T, hT⟩ : ∃ T, wr.heap.size = T := ⟨_, rfl⟩
      rw [hT] at HT ⊢
      clear hT
      have t0 := (blk_cell HT.out 0).trans rfl
      have t1 := (blk_cell HT.out 1).trans rfl
      have t2 := (blk_cell HT.out 2).trans rfl
      have HL1 := Aside0.mk (show ((enc (l.take i)).length + 1) * 1 ≤ 140737488355328 from by have := HEL.out; have := HL.out; omega)
      cases f0
      · by_cases hn : f1 = 0
        · subst hn
          have HNX := Aside0.mk (show enc (l.take (i + 1)) = (enc (l.take i) ++ [2]) ++ (escI f2 ++ [0, 1]) from by rw [HTA.out, enc_app, enc_one]; simp [encP])
          have HAL := Aside0.mk (show (l.take (i + 1)).all mayP = true from by rw [HTA.out, List.all_append, HA.out]; rfl)
          go_upto_region 6 with (at_builtin; refine Kd.R_append (Kd.int .u8) (w0 := w) w.heap.size rfl (.tmp 13) (.tmp 14) 55 5 (.int .u8 0) 1 rfl Tryd.underlying55 info_byte rfl (by decide) (by decide) u4 (enc (l.take i)) 2 [.int .u8 2] (fun _ => True) (fun _ => False) rfl rfl ?aP (fun _ hk => hk.elim) (fun _ _ => trivial) HR1.out HW.out HW.out.size HL1.out ?_; (case aP => exact rfl); intro v1 w2 ho hb hg hat; have HB2 := Aside0.mk hb; have HT2 := Aside0.mk ((hg.block T (blk_lt HT.out) (Kd.R_ne HR1.out HT.out (by decide))).trans HT.out); have HR2 := Aside0.mk ho; clear ho hb hg hat HR1 HW HT t0 t1 t2; have t0 := (blk_cell HT2.out 0).trans rfl; have t1 := (blk_cell HT2.out 1).trans rfl; have t2 := (blk_cell HT2.out 2).trans rfl)
          go_wp2_with fail
          refine (rep_calls (HM.out.below HB2.out) f2 HOK.out.2.2).mono ?_
          rintro en w3 ⟨rfl, hb3⟩
          have HB3 := Aside0.mk (below_step HB2.out hb3)
          have HR3 := Aside0.mk (Kd.R_below HR2.out hb3)
          have HLA := Aside0.mk (show (enc (l.take i) ++ [2]).length + (⟨(escU f2.data.toList).toArray⟩ : ByteArray).size ≤ 140737488355328 from by
            have h1 := HEL.out
            have h2 := HL.out
            have h3 : (⟨(escU f2.data.toList).toArray⟩ : ByteArray).size = (escU f2.data.toList).length := by simp [ByteArray.size]
            have h4 := escU_length f2.data.toList
            have h5 := HOK.out.2.2
            rw [data_length] at h4
            simp only at h5
            rw [List.length_append, h3]
            simp
            omega)
          have HE3 := Aside0.mk (show bytesOf (⟨(escU f2.data.toList).toArray⟩ : ByteArray) = escI f2 from by unfold bytesOf escI; simp)
          clear hb3 HB2 HR2 t0 t1 t2
          go_upto_region 7 with (at_builtin; refine append_str (w0 := w) w.heap.size rfl (.tmp 16) (.tmp 19) 55 9 5 rfl Tryd.underlying55 Tryd.underlying9 info_byte v1 (enc (l.take i) ++ [2]) _ rfl rfl HR3.out HB3.out HB3.out.size HLA.out ?_; intro v4 w4 ho hb; rw [HE3.out] at ho; have HR4 := Aside0.mk ho; have HB4 := Aside0.mk hb; clear ho hb HR3 HB3)
          have HLB := Aside0.mk (show ((enc (l.take i) ++ [2]) ++ escI f2).length + (⟨#[0, 1]⟩ : ByteArray).size ≤ 140737488355328 from by
            have h1 := HEL.out
            have h2 := HL.out
            have h4 := escI_length f2
            have h5 := HOK.out.2.2
            simp only at h5
            rw [List.length_append, List.length_append, show (⟨#[0, 1]⟩ : ByteArray).size = 2 from rfl]
            simp
            omega)
          go_wp2_with (at_builtin; refine append_str (w0 := w) w.heap.size rfl (.tmp 21) (.const (.string ⟨#[0, 1]⟩)) 55 9 5 rfl Tryd.underlying55 Tryd.underlying9 info_byte v4 ((enc (l.take i) ++ [2]) ++ escI f2) ⟨#[0, 1]⟩ rfl rfl HR4.out HB4.out HB4.out.size HLB.out ?_; intro v5 w5 ho hb; have HR5 := Aside0.mk ho; have HB5 := Aside0.mk hb; clear ho hb HR4 HB4)
          go_roundg (l.length - (i + 1))
          case measure => have := HI.out; have := HI2.out; omega
          case rel => exact ⟨i + 1, by go_num, ⟨rfl, HI2.out⟩, ⟨by rw [HNX.out, ← List.append_assoc]; exact HR5.out⟩, HB5, HAL⟩
        · have n1 : (f1 != 0) = true := by simpa using hn
          have n2 : (f1 == 0) = false := by simpa using hn
          have HK := Aside0.mk (HBAD.out (by unfold mayP; simpa using hn))
          clear hn
          go_wp2_with fail
          exact bodyPost_ret (v := .tuple #[.string ⟨#[]⟩, .int .i64 2]) (by simp [results, Tryd.results10, go_sem]) rfl ⟨by rw [HK.out], HW.out⟩
      · by_cases he : f2.toList = []
        · have e1 : f2.toList.isEmpty = true := by rw [he]; rfl
          have HNX := Aside0.mk (show enc (l.take (i + 1)) = (enc (l.take i) ++ [1]) ++ be 8 f1 from by rw [HTA.out, enc_app, enc_one]; simp [encP])
          have HAL := Aside0.mk (show (l.take (i + 1)).all mayP = true from by rw [HTA.out, List.all_append, HA.out]; simp [mayP, e1])
          go_upto_region 12 with (at_builtin; refine Kd.R_append (Kd.int .u8) (w0 := w) w.heap.size rfl (.tmp 44) (.tmp 45) 55 5 (.int .u8 0) 1 rfl Tryd.underlying55 info_byte rfl (by decide) (by decide) u4 (enc (l.take i)) 1 [.int .u8 1] (fun _ => True) (fun _ => False) rfl rfl ?bP (fun _ hk => hk.elim) (fun _ _ => trivial) HR1.out HW.out HW.out.size HL1.out ?_; (case bP => exact rfl); intro v1 w2 ho hb hg hat; have HB2 := Aside0.mk hb; have HT2 := Aside0.mk ((hg.block T (blk_lt HT.out) (Kd.R_ne HR1.out HT.out (by decide))).trans HT.out); have HR2 := Aside0.mk ho; clear ho hb hg hat HR1 HW HT t0 t1 t2; have t0 := (blk_cell HT2.out 0).trans rfl; have t1 := (blk_cell HT2.out 1).trans rfl; have t2 := (blk_cell HT2.out 2).trans rfl)
          have HPUT := Aside0.mk (put_any (w := w2) (IsL.nil (Kd.int .u8) w2) (by simp) (n := 8) HOK.out.1 HOK.out.2.1)
          go_wp2_with fail
          refine HPUT.out.mono ?_
          rintro en w3 ⟨v3, rfl, hv, hb3⟩
          have hv2 : Bys (be 8 f1) v3 w3 := by
            have h := hv
            rw [List.nil_append, show anyBe 8 f1 = be 8 f1 from if_pos (by decide)] at h
            exact h
          obtain ⟨A3, c3, rfl, hc3, hC3⟩ := hv2
          have HC3 := Aside0.mk hC3
          have HB3 := Aside0.mk (below_step HB2.out hb3)
          have HR3 := Aside0.mk (Kd.R_below HR2.out hb3)
          have HLA := Aside0.mk (show ((enc (l.take i) ++ [1]).length + (be 8 f1).length) * 1 ≤ 140737488355328 from by
            have h1 := HEL.out
            have h2 := HL.out
            rw [List.length_append, be_length]
            simp
            omega)
          clear hv hb3 hc3 hC3 HB2 HR2 HPUT t0 t1 t2
          go_wp2_with (at_builtin; refine Kd.R_append_rows (Kd.int .u8) (w0 := w) w.heap.size rfl (.tmp 47) (.tmp 50) 55 5 (.int .u8 0) 1 rfl Tryd.underlying55 info_byte rfl (by decide) (by decide) v1 (enc (l.take i) ++ [1]) (be 8 f1) A3 _ c3 (fun _ => True) (fun _ => False) rfl rfl HR3.out HC3.out (fun _ _ h => h) (fun _ h => h.elim) (fun _ _ => trivial) HB3.out HB3.out.size HLA.out ?_; intro v5 w5 ho hb hg hat; have HR5 := Aside0.mk ho; have HB5 := Aside0.mk hb; clear ho hb hg hat HR3 HB3)
          go_roundg (l.length - (i + 1))
          case measure => have := HI.out; have := HI2.out; omega
          case rel => exact ⟨i + 1, by go_num, ⟨rfl, HI2.out⟩, ⟨by rw [HNX.out]; exact HR5.out⟩, HB5, HAL⟩
        · have e1 : f2.toList.isEmpty = false := by simpa using he
          have HK := Aside0.mk (HBAD.out e1)
          go_wp2_with fail
          exact bodyPost_ret (v := .tuple #[.string ⟨#[]⟩, .int .i64 2]) (by simp [results, Tryd.results10, go_sem]) rfl ⟨by rw [HK.out], HW.out⟩
    · have t1 : decide (i < l.length) = false := decide_eq_false hi
      have HFIN := Aside0.mk (show keyV l = .tuple #[.string (strOfNums (enc l)), .int .i64 0] from if_pos (by have := HA.out; rw [List.take_of_length_le (by omega)] at this; exact this))
      have hbys : enc (l.take i) = enc l := by rw [List.take_of_length_le (by omega)]
      rw [hbys] at HR
      clear hi HA HI hbys
      obtain ⟨A9, c9, rfl, hc9, hC9⟩ := Kd.R_reads HR.out
      have hcv := run_str (IsL.mk hc9 hC9)
      clear hc9 hC9 HR
      go_wp2_with fail
      exact bodyPost_ret (v := .tuple #[.string (strOfNums (enc l)), .int .i64 0]) (by simp [results, Tryd.results10, go_sem]) rfl ⟨by rw [HFIN.out], HB.out⟩
end Go.Proofs.YtdekhhimjnockaaDoor.Tu
