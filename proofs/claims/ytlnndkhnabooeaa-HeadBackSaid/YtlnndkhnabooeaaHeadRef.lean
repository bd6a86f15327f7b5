/- The reference's Right and Block, and as. -/
import Derived.Test.YtlnndkhnabooeaaHeadDec
import Derived.Laws.Concat
namespace Go.Proofs.Ytlnndkhnabooeaa.Head
open Go.RowKit Go.Proofs.YtlnndkhnabooeaaW.PrintWords Go.Proofs.YtlnndkhnabooeaaW.PrintLast Go.Proofs.YtlnndkhnabooeaaW.PrintMore
open Go.Proofs.Ytlnndkhnabooeaa Go.Proofs.Ytlnndkhnabooeaa.Vals Go.Proofs.Ytlnndkhnabooeaa.Word Go.Proofs.Ytlnndkhnabooeaa.Q Go.Proofs.Ytlnndkhnabooeaa.Math
set_option linter.unusedVariables false
set_option linter.unusedSimpArgs false

theorem rhright_is (x : Hd) (hx : x.typed) (k : Nat) (hk : 1100 ≤ k) : sluicegateref17_Right.f k x.c.blocks x.c.bytes x.c.frames x.c.fan x.c.buf x.c.leaf x.c.key x.c.val x.root x.h = some (decide x.right) := by
  unfold sluicegateref17_Right.f
  rw [rright_is x.c k hk]
  simp only [Option.bind_some]
  unfold Hd.typed at hx
  rw [w64 (x := x.root) (by omega) (by omega)]
  by_cases h1 : x.c.right
  · rw [decide_eq_true h1, if_pos rfl]
    by_cases h2 : x.root > 0
    · rw [if_pos h2]
      by_cases h3 : x.root < x.c.blocks
      · rw [if_pos h3]
        by_cases h4 : x.h > 0
        · rw [if_pos h4]
          by_cases h5 : x.h < 42
          · rw [decide_eq_true h5, decide_eq_true (show x.right from ⟨h1, by omega, h3, by omega, by omega⟩)]
          · rw [decide_eq_false h5, decide_eq_false (fun h : x.right => h5 (by have := h.2.2.2.2; omega))]
        · rw [if_neg h4, decide_eq_false (fun h : x.right => h4 (by have := h.2.2.2.1; omega))]
      · rw [if_neg h3, decide_eq_false (fun h : x.right => h3 h.2.2.1)]
    · rw [if_neg h2, decide_eq_false (fun h : x.right => h2 (by have := h.2.1; omega))]
  · rw [decide_eq_false h1, if_neg (by decide), decide_eq_false (fun h : x.right => h1 h.1)]
theorem rhright_calls (x : Hd) (hx : x.typed) (w : World) : Calls Try.prog 7 #[x.v] w fun e w' => e = .returned (.bool (decide x.right)) ∧ Below w.heap.size w w' :=
  sluicegateref17_Right.calls 1100 _ _ _ _ _ _ _ _ _ _ _ w (rhright_is x hx 1100 (by omega))
theorem as_calls (x : Hd) (w : World) : Calls Try.prog 8 #[x.v] w fun e w' => e = .returned x.v ∧ Below w.heap.size w w' :=
  sluicegatelaw17_as.calls _ _ _ _ _ _ _ _ _ _ _ _ _ _ _ _ _ _ _ _ w rfl

theorem bytesOf_str {l : List Int} (h : By l) : bytesOf (strOfNums l) = l := by
  unfold bytesOf
  rw [strOfNums_data, List.map_map]
  induction l with
  | nil => rfl
  | cons c t ih =>
    have hc := h.head
    rw [List.map_cons, ih h.tail]
    congr 1
    obtain ⟨n, rfl⟩ := Int.eq_ofNat_of_zero_le hc.1
    simp only [Function.comp, Int.toNat_natCast, UInt8.toNat_ofNat']
    rw [Nat.mod_eq_of_lt (by omega)]
theorem str_inj {a b : List Int} (ha : By a) (hb : By b) (h : strOfNums a = strOfNums b) : a = b := by
  rw [← bytesOf_str ha, ← bytesOf_str hb, h]
theorem three_blk (w : World) (a b c : Obj) : (((w.alloc a).alloc b).alloc c).heap[w.heap.size]? = some a ∧ (((w.alloc a).alloc b).alloc c).heap[w.heap.size + 1]? = some b ∧ (((w.alloc a).alloc b).alloc c).heap[w.heap.size + 1 + 1]? = some c := by
  have h1 := blk_new (w.alloc a) b
  rw [show (w.alloc a).heap.size = w.heap.size + 1 from Array.size_push _] at h1
  have h2 := blk_new ((w.alloc a).alloc b) c
  rw [show ((w.alloc a).alloc b).heap.size = w.heap.size + 1 + 1 from by rw [show ((w.alloc a).alloc b).heap.size = (w.alloc a).heap.size + 1 from Array.size_push _, show (w.alloc a).heap.size = w.heap.size + 1 from Array.size_push _]] at h2
  exact ⟨blk_alloc (blk_alloc (blk_new w a) b) c, blk_alloc h1 c, h2⟩
theorem cat_run (l m : List Int) (h : l.length + m.length ≤ 8388608) (W : World) : (Op.stringOp .add (strOfNums l) (strOfNums m)).run Try.prog W = .ok (.string (strOfNums (l ++ m))) W := by
  rw [run_string_add (P := Try.prog) (w := W) _ _ (by rw [strOfNums_size]; omega) (by rw [strOfNums_size]; omega), str_append]
theorem str_bytes {l : List Int} (h : By l) (hl : l.length ≤ 140737488351232) (W : World) : Bys l (.slice (some ⟨W.heap.size, 0, none⟩) (strOfNums l).size (grownCap W (strOfNums l).size 0 5)) (Lib.bytesWorld W 5 (strOfNums l)) ∧ Below W.heap.size W (Lib.bytesWorld W 5 (strOfNums l)) := by
  have hs : (strOfNums l).size = l.length := strOfNums_size l
  have hr := bytes_reads W 5 (strOfNums l) (by omega)
  rw [bytesOf_str h] at hr
  rw [hs] at hr ⊢
  exact ⟨⟨_, _, rfl, grownCap_ge _ _ _ _, Kd.C_of_reads (d := (0 : Int)) (readsInt_of.1 hr)⟩, bytes_below (Below.refl _ _) (Nat.le_refl _) _ _⟩
theorem rsum_calls {w : World} {v : Value} {l : List Int} (h : Bys l v w) (hb : By l) (hl : l.length ≤ 20000) : Calls Try.prog 20 #[v] w fun e w' => e = .returned (.int .u32 (M 1 l)) ∧ Below w.heap.size w w' := by
  obtain ⟨A, c, rfl, hc, hC⟩ := h
  refine (sluicegateref03_Sum.calls (l.length + 1) A c l _ w hC hc (rsum_is l hb hl _ (by omega))).mono ?_
  rintro e w' ⟨rfl, hd⟩
  obtain ⟨k, rfl⟩ := hd.out
  exact ⟨rfl, pw_below_drewN (Below.refl _ _) k⟩
/-- A head's numbers as whole numbers. -/
def nv (x : Hd) : Array Value := #[.int .i64 x.c.blocks, .int .i64 x.c.bytes, .int .i64 x.c.frames, .int .i64 x.c.fan, .int .i64 x.c.buf, .int .i64 x.c.leaf, .int .i64 x.c.key, .int .i64 x.c.val, .int .i64 x.root, .int .i64 x.h]
theorem nv_at {w : World} {L : Nat} {t : TypeId} {x : Hd} (h : w.heap[L]? = some (.cells (nv x) t (0, 0))) {i : Nat} (hi : i < 10) : w.cell? ⟨L, i, none⟩ = some (.int .i64 (x.nums[i]'(by simp [Hd.nums]; omega))) := by
  rw [blk_cell h i]
  match i, hi with
  | 0, _ | 1, _ | 2, _ | 3, _ | 4, _ | 5, _ | 6, _ | 7, _ | 8, _ | 9, _ => rfl
theorem name_str : strOfNums nameB = { data := #[83, 76, 85, 73, 67, 69, 48, 49] } := by decide

set_option maxHeartbeats 4000000 in
theorem block_calls (x : Hd) (hr : x.right) (w : World) : Calls Try.prog 11 #[x.v] w fun e w' => e = .returned (.string (strOfNums x.blk)) ∧ Below w.heap.size w w' := by
  have HNB := Aside0.mk (nums_bd hr)
  have HRT := Aside0.mk hr
  have hroot := HNB.out x.root (by simp [Hd.nums])
  clear hr
  have H3 := Aside0.mk (three_blk w (.cells x.cs 32) (.cells #[.int .i64 x.c.blocks, .int .i64 x.c.bytes, .int .i64 x.c.frames, .int .i64 x.c.fan, .int .i64 x.c.buf, .int .i64 x.c.leaf, .int .i64 x.c.key, .int .i64 x.c.val] 23) (.cells (nv x) 3))
  have HB := Aside0.mk (below_alloc (below_alloc (below_alloc (Below.refl w.heap.size w) (.cells x.cs 32)) (.cells #[.int .i64 x.c.blocks, .int .i64 x.c.bytes, .int .i64 x.c.frames, .int .i64 x.c.fan, .int .i64 x.c.buf, .int .i64 x.c.leaf, .int .i64 x.c.key, .int .i64 x.c.val] 23)) (.cells (nv x) 3))
  unfold Hd.cs nv at H3 HB
  unfold Hd.v
  go_enter Try.func11, Try.ntmps11
  go_wp2_with fail
  rw [← name_str]
  generalize ((w.alloc _).alloc _).alloc _ = w4 at H3 HB ⊢
  obtain ⟨L, hL⟩ : ∃ L, w.heap.size + 1 + 1 = L := ⟨_, rfl⟩
  obtain ⟨C, hC⟩ : ∃ C, w.heap.size + 1 = C := ⟨_, rfl⟩
  rw [hL, hC] at H3
  have HC4 := Aside0.mk H3.out.2.1
  have HL4 := Aside0.mk (show w4.heap[L]? = some (.cells (nv x) 3 (0, 0)) from H3.out.2.2)
  rw [hL, hC]
  clear H3 hL hC
  go_loopg [5, 6] 11 (fun kq v5 v6 wx => ∃ (i : Nat) (l : List Int), v5 = .string (strOfNums l) ∧ v6 = .int .i64 (i : Int) ∧ Aside0 (l = nameB ++ bes (x.nums.take i)) ∧ Aside0 (kq = 11 - i ∧ i ≤ 10) ∧ Aside0 (wx.heap[C]? = some (.cells #[.int .i64 x.c.blocks, .int .i64 x.c.bytes, .int .i64 x.c.frames, .int .i64 x.c.fan, .int .i64 x.c.buf, .int .i64 x.c.leaf, .int .i64 x.c.key, .int .i64 x.c.val] 23 (0, 0))) ∧ Aside0 (wx.heap[L]? = some (.cells (nv x) 3 (0, 0))) ∧ Aside0 (Below w.heap.size w wx))
  case atStart => exact ⟨0, nameB, rfl, rfl, ⟨by simp [bes]⟩, ⟨rfl, by omega⟩, HC4, HL4, HB⟩
  case round =>
    clear HC4 HL4 HB
    obtain ⟨i, l, rfl, rfl, HLL, HI, HC, HL, HB⟩ := hrel
    by_cases hi : i < 10
    · have g1 : decide ((i : Int) < 10) = true := decide_eq_true (by omega)
      have kn := nv_at HL.out hi
      have hil : i < x.nums.length := by simp [Hd.nums]; omega
      have hbd := HNB.out _ (List.getElem_mem hil)
      have HSN := Aside0.mk (bes_snoc x hil)
      generalize x.nums[i] = v at kn hbd HSN
      go_wp2_with fail
      refine (rbytes_calls ((4 : Nat) : Int) v hbd.1 (by omega) _).mono ?_
      rintro en w5 ⟨v5, rfl, hby, hb⟩
      have HBE := Aside0.mk (show Bys (be 4 v) v5 w5 from hby)
      have HC5 := Aside0.mk (blk_below HC.out hb)
      have HL5 := Aside0.mk (blk_below HL.out hb)
      have HB5 := Aside0.mk (below_step HB.out hb)
      obtain ⟨m, hm⟩ : ∃ m, be 4 v = m := ⟨_, rfl⟩
      have HMM := Aside0.mk hm
      rw [hm] at HBE
      have hs := run_str HBE.out
      have hcat := fun W => cat_run l m (by have := front_le x i; rw [HLL.out, ← hm, be_length]; omega) W
      clear hm hby hb kn HC HL HB
      go_wp2_with fail
      go_roundg (10 - i)
      case measure => have := HI.out; omega
      case rel => exact ⟨i + 1, l ++ m, rfl, by simp, ⟨by rw [HSN.out, HLL.out, HMM.out]⟩, ⟨by omega, by omega⟩, HC5, HL5, HB5⟩
    · have g1 : decide ((i : Int) < 10) = false := decide_eq_false (by omega)
      obtain rfl : i = 10 := by have := HI.out; omega
      go_wp2_with (first | (guard_target = wpList _ _ _ (Oper.mk _ (Op.makeSlice _ _ _) _ _ _ _ :: _) _ _; refine Aside0.out ?_))
      refine Aside0.mk ?_
      refine Kd.R_make (Kd.int .u8) (w0 := wr) wr.heap.size 5 rfl rfl 27 (.const (.int .i64 12)) (.const (.int .i64 12)) rfl 12 rfl rfl Try.underlying27 (.int .u8 0) 1 info_byte rfl (by decide) (by decide) 0 (ok := fun _ => True) (okp := fun _ => True) rfl (fun _ h => h) trivial (by decide) (by decide) (Below.refl _ _) (Nat.le_refl _) ?_
      intro v5 w5 hR hb hg hat
      have HBE := Aside0.mk (show Bys (List.replicate 12 0) v5 w5 from Kd.R_reads hR)
      have HC5 := Aside0.mk (blk_below HC.out hb)
      have HB5 := Aside0.mk (below_step HB.out hb)
      obtain ⟨z, hz⟩ : ∃ z, List.replicate 12 (0 : Int) = z := ⟨_, rfl⟩
      rw [hz] at HBE
      have hlp : l ++ z = x.pre := by rw [HLL.out, ← hz]; rfl
      have HLP := Aside0.mk hlp
      have hlen : (l ++ z).length = 60 := by rw [hlp, pre_len]
      have hs := run_str HBE.out
      have hcat := fun W => cat_run l z (by rw [← List.length_append, hlen]; decide) W
      have kb := fun W => print_bytes (P := Try.prog) 9 27 5 Try.underlying9 Try.underlying27 Try.underlying5 (strOfNums (l ++ z)) W
      clear hR hb hg hat HC HL HB hz hlp hlen
      go_wp2_with fail
      clear hs hcat kb HBE
      generalize l ++ z = q at HLP ⊢
      obtain rfl : q = x.pre := HLP.out
      have hsb := str_bytes (by_pre x) (by rw [pre_len]; decide) w5
      have HQ := Aside0.mk hsb.1
      have HC6 := Aside0.mk (blk_below HC5.out hsb.2)
      have HB6 := Aside0.mk (below_step HB5.out hsb.2)
      clear hsb HC5 HB5 HLP
      refine (rsum_calls HQ.out (by_pre x) (by rw [pre_len]; decide)).mono ?_
      rintro en w7 ⟨rfl, hb⟩
      have HC7 := Aside0.mk (blk_below HC6.out hb)
      have HB7 := Aside0.mk (below_step HB6.out hb)
      clear hb HQ HC6 HB6
      have hs := M_range 1 x.pre
      have hml : (x.pre).length = 60 := pre_len x
      have HMS := Aside0.mk (show x.blk = x.pre ++ be 4 (M 1 x.pre) ++ List.replicate (x.c.bytes - 64).toNat 0 from rfl)
      generalize x.pre = q at hs hml HMS ⊢
      generalize M 1 q = sm at hs HMS ⊢
      go_wp2_with fail
      refine (rbytes_calls ((4 : Nat) : Int) sm hs.1 (by omega) _).mono ?_
      rintro en w8 ⟨v8, rfl, hby, hb⟩
      have HBE := Aside0.mk (show Bys (be 4 sm) v8 w8 from hby)
      have HC8 := Aside0.mk (blk_below HC7.out hb)
      have HB8 := Aside0.mk (below_step HB7.out hb)
      have hm4 := be_length 4 sm
      generalize be 4 sm = m at HBE HMS hm4
      have hs2 := run_str HBE.out
      have hcat := fun W => cat_run q m (by omega) W
      have c1 := (blk_cell HC8.out 1).trans rfl
      have hbb : 64 ≤ x.c.bytes ∧ x.c.bytes ≤ 65536 := ⟨HRT.out.1.2.2.2.2.2.2.1, HRT.out.1.2.2.2.2.2.1⟩
      have HBB := Aside0.mk hbb
      have HLN := Aside0.mk (show q.length = 60 ∧ m.length = 4 from ⟨hml, hm4⟩)
      clear hby hb HC7 HB7 hs hml hm4 hbb
      go_wp2_with (first | (guard_target = wpList _ _ _ (Oper.mk _ (Op.makeSlice _ _ _) _ _ _ _ :: _) _ _; refine Aside0.out ?_))
      refine Aside0.mk ?_
      refine Kd.R_make (Kd.int .u8) (w0 := w8) w8.heap.size 5 rfl rfl 27 (.tmp 61) (.tmp 61) rfl (x.c.bytes - 64) (congrArg (Value.int .i64) (w64 (by have := HBB.out; omega) (by have := HBB.out; omega))) (congrArg (Value.int .i64) (w64 (by have := HBB.out; omega) (by have := HBB.out; omega))) Try.underlying27 (.int .u8 0) 1 info_byte rfl (by decide) (by decide) 0 (ok := fun _ => True) (okp := fun _ => True) rfl (fun _ h => h) trivial (by have := HBB.out; omega) (by have := HBB.out; omega) (Below.refl _ _) (Nat.le_refl _) ?_
      intro v9 w9 hR hb hg hat
      have HB9 := Aside0.mk (below_step HB8.out hb)
      have HBZ := Aside0.mk (show Bys (List.replicate (x.c.bytes - 64).toNat 0) v9 w9 from Kd.R_reads hR)
      obtain ⟨z2, hz2⟩ : ∃ z2, List.replicate (x.c.bytes - 64).toNat (0 : Int) = z2 := ⟨_, rfl⟩
      have hzl : z2.length ≤ 65536 := by rw [← hz2, List.length_replicate]; have := HBB.out; omega
      rw [hz2] at HBZ HMS
      have hs3 := run_str HBZ.out
      have hcat2 := fun W => cat_run (q ++ m) z2 (by have := HLN.out; rw [List.length_append]; omega) W
      generalize q ++ m = q2 at hcat2 HMS ⊢
      clear hR hb hg hat hz2 hzl hs2 c1 HC8 HB8 hcat
      go_wp2_with fail
      go_ret
      exact ⟨by rw [HMS.out]; simp, HB9.out⟩
end Go.Proofs.Ytlnndkhnabooeaa.Head
