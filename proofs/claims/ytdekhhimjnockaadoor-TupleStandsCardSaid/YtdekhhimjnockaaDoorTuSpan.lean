/- The span of the tuples that begin with one; whether a key is in it. -/
import Derived.Test.YtdekhhimjnockaaDoorTuReads
import Derived.Test.YtdekhhimjnockaaDoorTuCmp
namespace Go.Proofs.YtdekhhimjnockaaDoor.Tu
open Go.RowKit Go.Proofs.YtdekhhimjnockaaDoorW.PrintWords Go.Proofs.YtdekhhimjnockaaDoorW.PrintLast Go.Proofs.YtdekhhimjnockaaDoorW.PrintMore
open Go.Proofs.YtdekhhimjnockaaDoor Go.Proofs.YtdekhhimjnockaaDoor.Vals Go.Proofs.YtdekhhimjnockaaDoor.Word Go.Proofs.YtdekhhimjnockaaDoor.Q Go.Proofs.YtdekhhimjnockaaDoor.S
set_option linter.unusedVariables false
set_option linter.unusedSimpArgs false

def spanV (l : List S45) : Value := if l.all mayP = true then .tuple #[.agg #[.string (strOfNums (enc l)), .string (strOfNums (enc l) ++ ⟨#[3]⟩), .bool false], .int .i64 0] else .tuple #[.agg #[.string ⟨#[]⟩, .string ⟨#[]⟩, .bool false], .int .i64 2]
set_option maxHeartbeats 8000000 in
set_option maxRecDepth 100000 in
theorem span_calls {w : World} {A : Option Addr} {c : Nat} {l : List S45} (h : k45.C w A l.length l) (ho : ∀ p ∈ l, OkP p) (hl : l.length ≤ 100000) (hm : MaxL w) :
    Calls Tryd.prog 15 #[.slice A l.length c] w fun e w' => e = .returned (spanV l) ∧ Below w.heap.size w w' := by
  have H := Aside0.mk h
  have HO := Aside0.mk ho
  have HL := Aside0.mk hl
  have HM := Aside0.mk hm
  have HEL := Aside0.mk (enc_length ho)
  clear h ho hl hm
  go_enter Tryd.func15, Tryd.ntmps15
  go_wp2_with fail
  have HB1 := Aside0.mk (below_alloc (Below.refl w.heap.size w) (.cells #[.string ⟨#[]⟩, .string ⟨#[]⟩, .bool false] 38))
  have HZ := Aside0.mk (blk_new w (.cells #[.string ⟨#[]⟩, .string ⟨#[]⟩, .bool false] 38))
  have HC := Aside0.mk (Kd.C_below H.out HB1.out)
  generalize w.alloc (.cells #[.string ⟨#[]⟩, .string ⟨#[]⟩, .bool false] 38) = w1 at HB1 HZ HC ⊢
  obtain ⟨T, hT⟩ : ∃ T, w.heap.size = T := ⟨_, rfl⟩
  have HT := Aside0.mk hT
  rw [hT] at HZ ⊢
  clear hT
  refine (key_calls HC.out HO.out HL.out (HM.out.below HB1.out)).mono ?_
  rintro en w2 ⟨rfl, hb⟩
  have HB2 := Aside0.mk (below_step HB1.out hb)
  have HZ2 := Aside0.mk (blk_below HZ.out hb)
  clear hb HB1 HZ HC
  have c0 := (blk_cell HZ2.out 0).trans rfl
  have c1 := (blk_cell HZ2.out 1).trans rfl
  have c2 := (blk_cell HZ2.out 2).trans rfl
  have z0 := blk_frozen HZ2.out 0
  have z1 := blk_frozen HZ2.out 1
  have z2 := blk_frozen HZ2.out 2
  by_cases hma : l.all mayP = true
  · have HV := Aside0.mk (show spanV l = _ from if_pos hma)
    rw [show keyV l = _ from if_pos hma]
    clear hma
    have hk : (strOfNums (enc l)).size + (⟨#[3]⟩ : ByteArray).size ≤ 9223372036854775807 := by
      have h1 := HEL.out
      have h2 := HL.out
      rw [strOfNums_size, show (⟨#[3]⟩ : ByteArray).size = 1 from rfl]
      omega
    generalize strOfNums (enc l) = k at HV hk ⊢
    have kc := fun W => run_string_add_sum (P := Tryd.prog) (w := W) k ⟨#[3]⟩ hk
    clear hk
    go_wp2_with fail
    refine bodyPost_ret (results_ct rfl _ _ T 38 #[.string k, .string (k ++ ⟨#[3]⟩), .bool false] (0, 0) _ rfl (blk_put (blk_put (blk_put HZ2.out 0 _ rfl) 1 _ rfl) 2 _ rfl) Tryd.underlying38 rfl (by kernel_rfl)) rfl ⟨by rw [HV.out]; rfl, ?_⟩
    have hT := HT.out
    exact below_set (below_set (below_set HB2.out (by show w.heap.size ≤ T; omega)) (by show w.heap.size ≤ T; omega)) (by show w.heap.size ≤ T; omega)
  · have HV := Aside0.mk (show spanV l = _ from if_neg hma)
    rw [show keyV l = _ from if_neg hma]
    clear hma
    go_wp2_with fail
    refine bodyPost_ret (results_ct rfl _ _ T 38 #[.string ⟨#[]⟩, .string ⟨#[]⟩, .bool false] (0, 0) _ rfl (blk_put (blk_put (blk_put HZ2.out 0 _ rfl) 1 _ rfl) 2 _ rfl) Tryd.underlying38 rfl (by kernel_rfl)) rfl ⟨by rw [HV.out]; rfl, ?_⟩
    have hT := HT.out
    exact below_set (below_set (below_set HB2.out (by show w.heap.size ≤ T; omega)) (by show w.heap.size ≤ T; omega)) (by show w.heap.size ≤ T; omega)
theorem rcmp_calls (a b : ByteArray) (ha : a.size ≤ 140737488355328) (w : World) : Calls Tryd.prog 23 #[.string a, .string b] w fun e w' => e = .returned (.int .i64 (Lib.compareBytes a.data.toList b.data.toList)) ∧ Below w.heap.size w w' := by
  obtain ⟨k, hk⟩ := (cmp_ev a b ha).rounds
  refine (sluicegateref01_Compare.calls k a b _ w hk).mono ?_
  rintro e w' ⟨rfl, hb⟩
  exact ⟨rfl, hb.below⟩
set_option maxHeartbeats 8000000 in
set_option maxRecDepth 100000 in
theorem in_calls (lo hi key : ByteArray) (h1 : lo.size ≤ 140737488355328) (h2 : key.size ≤ 140737488355328) (w : World) :
    Calls Tryd.prog 16 #[.agg #[.string lo, .string hi, .bool false], .string key] w fun e w' => e = .returned (.bool (decide (Lib.compareBytes lo.data.toList key.data.toList ≤ 0 ∧ Lib.compareBytes key.data.toList hi.data.toList < 0))) ∧ Below w.heap.size w w' := by
  have H1 := Aside0.mk h1
  have H2 := Aside0.mk h2
  clear h1 h2
  have HB1 := Aside0.mk (below_alloc (Below.refl w.heap.size w) (.cells #[.string lo, .string hi, .bool false] 38))
  have HZ := Aside0.mk (blk_new w (.cells #[.string lo, .string hi, .bool false] 38))
  go_enter Tryd.func16, Tryd.ntmps16
  go_upto_region 1 with fail
  generalize w.alloc (.cells #[.string lo, .string hi, .bool false] 38) = w1 at HB1 HZ ⊢
  obtain ⟨T, hT⟩ : ∃ T, w.heap.size = T := ⟨_, rfl⟩
  rw [hT] at HZ ⊢
  have HT := Aside0.mk hT
  clear hT
  have c0 := (blk_cell HZ.out 0).trans rfl
  have HC1 := Aside0.mk (rcmp_calls lo key H1.out w1)
  have HC2 := Aside0.mk (fun W => rcmp_calls key hi H2.out W)
  obtain ⟨X, hX⟩ : ∃ X, Lib.compareBytes lo.data.toList key.data.toList = X := ⟨_, rfl⟩
  obtain ⟨Y, hY⟩ : ∃ Y, Lib.compareBytes key.data.toList hi.data.toList = Y := ⟨_, rfl⟩
  rw [hX] at HC1
  rw [hY] at HC2
  have HXE := Aside0.mk hX
  have HYE := Aside0.mk hY
  clear hX hY
  go_wp2_with fail
  refine HC1.out.mono ?_
  rintro en w2 ⟨rfl, hb⟩
  have HZ2 := Aside0.mk (blk_below HZ.out hb)
  have HB2 := Aside0.mk (below_step HB1.out hb)
  clear hb HC1 HZ HB1 c0
  have c1 := (blk_cell HZ2.out 1).trans rfl
  have c2 := (blk_cell HZ2.out 2).trans rfl
  by_cases hX : X ≤ 0
  · have t1 : decide (X ≤ 0) = true := decide_eq_true hX
    go_wp2_with fail
    refine (HC2.out w2).mono ?_
    rintro en w3 ⟨rfl, hb⟩
    have HB3 := Aside0.mk (below_step HB2.out hb)
    clear hb HC2 HZ2 HB2
    go_wp2_with fail
    exact bodyPost_ret (v := .bool (decide (Y < 0))) (by simp [results, Tryd.results16, go_sem]) rfl ⟨by rw [HXE.out, HYE.out]; simp [hX], HB3.out⟩
  · have t1 : decide (X ≤ 0) = false := decide_eq_false hX
    go_wp2_with fail
    exact bodyPost_ret (v := .bool false) (by simp [results, Tryd.results16, go_sem]) rfl ⟨by rw [HXE.out, HYE.out]; rw [decide_eq_false (fun h => by have := h.1; omega)], HB2.out⟩
end Go.Proofs.YtdekhhimjnockaaDoor.Tu
