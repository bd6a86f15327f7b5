/- The key of a tuple, and its span: the law. -/
import Derived.Test.YtdekhhimjnockaaDoorTuSpan
namespace Go.Proofs.YtdekhhimjnockaaDoor.Tu
open Go.RowKit Go.Proofs.YtdekhhimjnockaaDoorW.PrintWords Go.Proofs.YtdekhhimjnockaaDoorW.PrintLast Go.Proofs.YtdekhhimjnockaaDoorW.PrintMore
open Go.Proofs.YtdekhhimjnockaaDoor Go.Proofs.YtdekhhimjnockaaDoor.Vals Go.Proofs.YtdekhhimjnockaaDoor.Word Go.Proofs.YtdekhhimjnockaaDoor.Q Go.Proofs.YtdekhhimjnockaaDoor.S
set_option linter.unusedVariables false
set_option linter.unusedSimpArgs false

theorem eqA38 (d : Nat) (w : World) (x0 y0 x1 y1 : ByteArray) (x2 y2 : Bool) :
    (Op.equalIn (d + 2) 38 (.agg #[.string x0, .string x1, .bool x2]) (.agg #[.string y0, .string y1, .bool y2])).run Tryd.prog w = .ok (x0.toList == y0.toList && (x1.toList == y1.toList && (x2 == y2))) w := by
  refine eqA_of Tryd.underlying38 (by kernel_rfl) ?_
  refine eqf_cons (by rfl) (by go_simp; rfl) (by go_simp; rfl) (by go_simp) ?_
  refine eqf_cons (by rfl) (by go_simp; rfl) (by go_simp; rfl) (by go_simp) ?_
  exact eqf_last (by rfl) (by go_simp; rfl) (by go_simp; rfl) (by go_simp)
attribute [local go_sem high] eqA45 eqA38
/-- What is known of a tuple that comes in. -/
def Num64 (l : List S45) : Prop := l.length ≤ 4398046511104 ∧ ∀ p ∈ l, 0 ≤ p.f1 ∧ p.f1 < 18446744073709551616
theorem ok_of {l : List S45} (h : Num64 l) (hs : Small l) : ∀ p ∈ l, OkP p := fun p hp => ⟨(h.2 p hp).1, (h.2 p hp).2, by have := hs.2 p hp; omega⟩
theorem enc_small : ∀ {l : List S45}, Small l → (enc l).length ≤ 100000 := by
  intro l h
  have main : ∀ m : List S45, (∀ p ∈ m, p.f2.size ≤ 300) → (enc m).length ≤ 603 * m.length := by
    intro m
    induction m with
    | nil => intro _; simp [enc]
    | cons p r ih =>
      intro hm
      have h1 := ih (fun q hq => hm q (List.mem_cons_of_mem _ hq))
      have h2 := hm p List.mem_cons_self
      have h3 : (encP p).length ≤ 603 := by
        unfold encP
        split
        · rw [List.length_cons, be_length]; omega
        · have h4 := escI_length p.f2
          rw [List.length_cons, List.length_append]
          simp
          omega
      rw [show enc (p :: r) = encP p ++ enc r from rfl, List.length_append, List.length_cons]
      omega
  have := main l h.2
  have := h.1
  omega
theorem great_calls {w : World} {A : Option Addr} {c : Nat} {l : List S45} (h : k45.C w A l.length l) (hc : l.length ≤ c) (hl : Num64 l) : Calls Tryd.prog 13 #[.slice A l.length c] w fun e w' => ∃ b, e = .returned (.bool b) ∧ (b = false → Small l) ∧ Below w.heap.size w w' := by
  obtain ⟨b, hb, hi⟩ := great_ev l hl.1
  obtain ⟨k, hk⟩ := hb.rounds
  refine (sluicegatelaw37_great.calls k A c l b w h hc hk).mono ?_
  rintro e w' ⟨rfl, hb⟩
  exact ⟨b, rfl, hi, hb.below⟩
theorem may_calls {w : World} {A : Option Addr} {c : Nat} {m : List S59} (h : k59.C w A m.length m) (hc : m.length ≤ c) {l : List S45} (hm : l.map to59 = m) (hl : l.length ≤ 100000) : Calls Tryd.prog 14 #[.slice A m.length c] w fun e w' => e = .returned (.bool (l.all mayP)) ∧ Below w.heap.size w w' := by
  subst hm
  obtain ⟨k, hk⟩ := (may_ev (l.map to59) (by rw [List.length_map]; exact hl)).rounds
  rw [to45_59] at hk
  refine (sluicegateref37_May.calls k A c _ _ w h hc hk).mono ?_
  rintro e w' ⟨rfl, hb⟩
  exact ⟨rfl, hb.below⟩
theorem rkey_calls {w : World} {A : Option Addr} {c : Nat} {m : List S59} (h : k59.C w A m.length m) (hc : m.length ≤ c) {l : List S45} (hm : l.map to59 = m) (hl : l.length ≤ 100000) (ho : ∀ p ∈ l, OkP p) : Calls Tryd.prog 19 #[.slice A m.length c] w fun e w' => e = .returned (.string (strOfNums (enc l))) ∧ Below w.heap.size w w' := by
  subst hm
  obtain ⟨k, hk⟩ := (key_ev (l.map to59) (by rw [List.length_map]; exact hl) (fun p hp => by
    obtain ⟨q, hq, rfl⟩ := List.mem_map.1 hp
    exact ho q hq)).rounds
  rw [to45_59] at hk
  exact sluicegateref37_Key.calls k A c _ _ w h hc hk
theorem tsame_calls {w : World} {A B : Option Addr} {c d : Nat} {l m : List S45} (h : k45.C w A l.length l) (hc : l.length ≤ c) (h2 : k45.C w B m.length m) (hd : m.length ≤ d) (hl : l.length ≤ 100000) : Calls Tryd.prog 20 #[.slice A l.length c, .slice B m.length d] w fun e w' => ∃ b, e = .returned (.bool b) ∧ (b = true ↔ l = m) ∧ Below w.heap.size w w' := by
  obtain ⟨b, hb, hi⟩ := tsame_ev l m hl
  obtain ⟨k, hk⟩ := hb.rounds
  refine (tuple_Same.calls k A c l B d m b w h hc h2 hd hk).mono ?_
  rintro e w' ⟨rfl, hb⟩
  exact ⟨b, rfl, hi, hb.below⟩
set_option maxHeartbeats 8000000 in
set_option maxRecDepth 100000 in
theorem keys_law {w : World} {A : Option Addr} {c : Nat} {l : List S45} (h : k45.C w A l.length l) (hc : l.length ≤ c) (hl : Num64 l) (n : Int) (s : ByteArray) (hm : MaxL w) :
    Calls Tryd.prog 5 #[.slice A l.length c, .int .u64 n, .string s] w (fun e w' => e = .returned (.bool true) ∧ Below w.heap.size w w') := by
  have H := Aside0.mk h
  have HCC := Aside0.mk hc
  have HL := Aside0.mk hl
  have HM := Aside0.mk hm
  clear h hc hl hm
  go_enter Tryd.func5, Tryd.ntmps5
  go_wp2_with fail
  refine (great_calls H.out HCC.out HL.out).mono ?_
  rintro en w1 ⟨b, rfl, hbs, hb⟩
  have HW1 := Aside0.mk hb
  cases b with
  | true =>
    clear hbs hb
    go_wp2_with fail
    refine (awake_calls (HM.out.below HW1.out)).mono ?_
    rintro en w2 ⟨rfl, hb⟩
    have HW2 := Aside0.mk (below_step HW1.out hb)
    clear hb
    go_wp2_with fail
    go_ret
    exact ⟨rfl, HW2.out⟩
  | false =>
    have hsm := hbs rfl
    have HSM := Aside0.mk hsm
    have HOK := Aside0.mk (ok_of HL.out hsm)
    have HC1 := Aside0.mk (Kd.C_below H.out hb)
    have HLN := Aside0.mk (show l.length ≤ 30 from hsm.1)
    clear hbs hb hsm H
    go_wp2_with fail
    refine (key_calls HC1.out HOK.out (by have := HLN.out; omega) (HM.out.below HW1.out)).mono ?_
    rintro en w2 ⟨rfl, hb⟩
    have HW2 := Aside0.mk (below_step HW1.out hb)
    have HC2 := Aside0.mk (Kd.C_below HC1.out hb)
    clear hb HW1 HC1
    obtain ⟨m, hmm⟩ : ∃ m, l.map to59 = m := ⟨_, rfl⟩
    have HMM := Aside0.mk hmm
    have HML := Aside0.mk (show m.length = l.length from by rw [← hmm, List.length_map])
    clear hmm
    by_cases hma : l.all mayP = true
    · have HMA := Aside0.mk hma
      rw [show keyV l = _ from if_pos hma]
      clear hma
      go_wp2_with fail
      refine (span_calls HC2.out HOK.out (by have := HLN.out; omega) (HM.out.below HW2.out)).mono ?_
      rintro en w3 ⟨rfl, hb⟩
      have HW3 := Aside0.mk (below_step HW2.out hb)
      have HC3 := Aside0.mk (Kd.C_below HC2.out hb)
      clear hb HW2 HC2
      rw [show spanV l = _ from if_pos HMA.out]
      have HKE := Aside0.mk (readU_enc (l := l) (fun p hp => List.all_eq_true.1 HMA.out p hp) HOK.out)
      have HKS := Aside0.mk (show (strOfNums (enc l)).size ≤ 8388608 from by
        have h1 := enc_length HOK.out
        have h2 := HLN.out
        rw [strOfNums_size]
        omega)
      have HKB := Aside0.mk (show (strOfNums (enc l)).size ≤ 100000 from by
        rw [strOfNums_size]
        exact enc_small HSM.out)
      have HRK := Aside0.mk (fun (W : World) (A : Option Addr) (c : Nat) (h : k59.C W A m.length m) (hc : m.length ≤ c) => rkey_calls h hc HMM.out (by have := HLN.out; omega) HOK.out)
      generalize strOfNums (enc l) = k at HKE HKS HKB HRK ⊢
      go_upto_region 5 with fail
      have HB := below_alloc (Below.refl w3.heap.size w3) (.cells #[.string k, .string (k ++ ⟨#[3]⟩), .bool false] 38)
      have HZ := Aside0.mk (blk_new w3 (.cells #[.string k, .string (k ++ ⟨#[3]⟩), .bool false] 38))
      have HW4 := Aside0.mk (below_step HW3.out HB)
      have HC4 := Aside0.mk (Kd.C_below HC3.out HB)
      clear HW3 HC3 HB
      generalize w3.alloc (.cells #[.string k, .string (k ++ ⟨#[3]⟩), .bool false] 38) = w4 at HZ HW4 HC4 ⊢
      obtain ⟨T, hT⟩ : ∃ T, w3.heap.size = T := ⟨_, rfl⟩
      rw [hT] at HZ ⊢
      clear hT
      go_wp2_with fail
      refine (tuple_Num.calls n true n ⟨#[]⟩ w4 rfl).mono ?_
      rintro en w5 ⟨rfl, hb⟩
      have HZ5 := Aside0.mk (blk_below HZ.out hb)
      have HW5 := Aside0.mk (below_step HW4.out hb)
      have HC5 := Aside0.mk (Kd.C_below HC4.out hb)
      clear hb HZ HW4 HC4
      go_wp2_with fail
      refine (tuple_Text.calls s false 0 s w5 rfl).mono ?_
      rintro en w6 ⟨rfl, hb⟩
      have HZ6 := Aside0.mk (blk_below HZ5.out hb)
      have HW6 := Aside0.mk (below_step HW5.out hb)
      have HC6 := Aside0.mk (Kd.C_below HC5.out hb)
      clear hb HZ5 HW5 HC5
      go_wp2_with fail
      refine (as_calls HC6.out HCC.out (by have := HLN.out; omega) HMM.out).mono ?_
      rintro en w7 ⟨A7, c7, rfl, hC7, hc7, hb⟩
      have HZ7 := Aside0.mk (blk_below HZ6.out hb)
      have HW7 := Aside0.mk (below_step HW6.out hb)
      have HC7 := Aside0.mk (Kd.C_below HC6.out hb)
      have HD7 := Aside0.mk hC7
      have HDC := Aside0.mk hc7
      clear hb HZ6 HW6 HC6 hC7 hc7
      go_wp2_with fail
      refine (may_calls HD7.out HDC.out HMM.out (by have := HLN.out; omega)).mono ?_
      rintro en w8 ⟨rfl, hb⟩
      rw [HMA.out]
      have HZ8 := Aside0.mk (blk_below HZ7.out hb)
      have HW8 := Aside0.mk (below_step HW7.out hb)
      have HC8 := Aside0.mk (Kd.C_below HC7.out hb)
      clear hb HZ7 HW7 HC7 HD7 HDC
      have c0 := (blk_cell HZ8.out 0).trans rfl
      have c1 := (blk_cell HZ8.out 1).trans rfl
      have c2 := (blk_cell HZ8.out 2).trans rfl
      go_wp2_with fail
      refine (read_calls k (by have := HKB.out; omega) w8).mono ?_
      rintro en w9 ⟨v, rfl, hR, hb⟩
      rw [HKE.out] at hR ⊢
      have HZ9 := Aside0.mk (blk_below HZ8.out hb)
      have HW9 := Aside0.mk (below_step HW8.out hb)
      have HC9 := Aside0.mk (Kd.C_below HC8.out hb)
      obtain ⟨A9, c9, rfl, hc9, hC9⟩ := Kd.R_reads hR
      have HE9 := Aside0.mk (show k45.C w9 A9 l.length l from hC9)
      have HEC := Aside0.mk (show l.length ≤ c9 from hc9)
      clear hb HZ8 HW8 HC8 hR hc9 hC9 c0 c1 c2
      go_wp2_with fail
      refine (as_calls HC9.out HCC.out (by have := HLN.out; omega) HMM.out).mono ?_
      rintro en wa ⟨Aa, ca, rfl, hCa, hca, hb⟩
      have HZa := Aside0.mk (blk_below HZ9.out hb)
      have HWa := Aside0.mk (below_step HW9.out hb)
      have HCa := Aside0.mk (Kd.C_below HC9.out hb)
      have HEa := Aside0.mk (Kd.C_below HE9.out hb)
      have HDa := Aside0.mk hCa
      have HDCa := Aside0.mk hca
      clear hb HZ9 HW9 HC9 HE9 hCa hca
      go_wp2_with fail
      refine (HRK.out wa Aa ca HDa.out HDCa.out).mono ?_
      rintro en wb ⟨rfl, hb⟩
      have HZb := Aside0.mk (blk_below HZa.out hb)
      have HWb := Aside0.mk (below_step HWa.out hb)
      have HCb := Aside0.mk (Kd.C_below HCa.out hb)
      have HEb := Aside0.mk (Kd.C_below HEa.out hb)
      clear hb HZa HWa HCa HEa HDa HDCa
      go_wp2_with fail
      refine (tsame_calls HEb.out HEC.out HCb.out HCC.out (by have := HLN.out; omega)).mono ?_
      rintro en wc ⟨b, rfl, hbi, hb⟩
      obtain rfl : b = true := hbi.2 rfl
      have HZc := Aside0.mk (blk_below HZb.out hb)
      have HWc := Aside0.mk (below_step HWb.out hb)
      clear hb hbi HZb HWb HCb HEb
      have c0 := (blk_cell HZc.out 0).trans rfl
      have c1 := (blk_cell HZc.out 1).trans rfl
      have c2 := (blk_cell HZc.out 2).trans rfl
      have kc := fun W => run_string_add_sum (P := Tryd.prog) (w := W) k ⟨#[3]⟩ (by have := HKS.out; rw [show (⟨#[3]⟩ : ByteArray).size = 1 from rfl]; omega)
      go_wp2_with fail
      refine (awake_calls (HM.out.below HWc.out)).mono ?_
      rintro en wd ⟨rfl, hb⟩
      have HWd := Aside0.mk (below_step HWc.out hb)
      clear hb HWc
      go_wp2_with fail
      go_ret
      exact ⟨rfl, HWd.out⟩
    · have HMA := Aside0.mk (show l.all mayP = false by simpa using hma)
      rw [show keyV l = _ from if_neg hma]
      have HSV := Aside0.mk (show spanV l = _ from if_neg hma)
      clear hma
      go_wp2_with fail
      refine (span_calls HC2.out HOK.out (by have := HLN.out; omega) (HM.out.below HW2.out)).mono ?_
      rintro en w3 ⟨rfl, hb⟩
      have HW3 := Aside0.mk (below_step HW2.out hb)
      have HC3 := Aside0.mk (Kd.C_below HC2.out hb)
      clear hb HW2 HC2
      rw [HSV.out]
      clear HSV
      go_upto_region 5 with fail
      have HB := below_alloc (Below.refl w3.heap.size w3) (.cells #[.string ⟨#[]⟩, .string ⟨#[]⟩, .bool false] 38)
      have HZ := Aside0.mk (blk_new w3 (.cells #[.string ⟨#[]⟩, .string ⟨#[]⟩, .bool false] 38))
      have HW4 := Aside0.mk (below_step HW3.out HB)
      have HC4 := Aside0.mk (Kd.C_below HC3.out HB)
      clear HW3 HC3 HB
      generalize w3.alloc (.cells #[.string ⟨#[]⟩, .string ⟨#[]⟩, .bool false] 38) = w4 at HZ HW4 HC4 ⊢
      obtain ⟨T, hT⟩ : ∃ T, w3.heap.size = T := ⟨_, rfl⟩
      rw [hT] at HZ ⊢
      clear hT
      go_wp2_with fail
      refine (tuple_Num.calls n true n ⟨#[]⟩ w4 rfl).mono ?_
      rintro en w5 ⟨rfl, hb⟩
      have HZ5 := Aside0.mk (blk_below HZ.out hb)
      have HW5 := Aside0.mk (below_step HW4.out hb)
      have HC5 := Aside0.mk (Kd.C_below HC4.out hb)
      clear hb HZ HW4 HC4
      go_wp2_with fail
      refine (tuple_Text.calls s false 0 s w5 rfl).mono ?_
      rintro en w6 ⟨rfl, hb⟩
      have HZ6 := Aside0.mk (blk_below HZ5.out hb)
      have HW6 := Aside0.mk (below_step HW5.out hb)
      have HC6 := Aside0.mk (Kd.C_below HC5.out hb)
      clear hb HZ5 HW5 HC5
      go_wp2_with fail
      refine (as_calls HC6.out HCC.out (by have := HLN.out; omega) HMM.out).mono ?_
      rintro en w7 ⟨A7, c7, rfl, hC7, hc7, hb⟩
      have HZ7 := Aside0.mk (blk_below HZ6.out hb)
      have HW7 := Aside0.mk (below_step HW6.out hb)
      have HC7 := Aside0.mk (Kd.C_below HC6.out hb)
      have HD7 := Aside0.mk hC7
      have HDC := Aside0.mk hc7
      clear hb HZ6 HW6 HC6 hC7 hc7
      go_wp2_with fail
      refine (may_calls HD7.out HDC.out HMM.out (by have := HLN.out; omega)).mono ?_
      rintro en w8 ⟨rfl, hb⟩
      rw [HMA.out]
      have HZ8 := Aside0.mk (blk_below HZ7.out hb)
      have HW8 := Aside0.mk (below_step HW7.out hb)
      have HC8 := Aside0.mk (Kd.C_below HC7.out hb)
      clear hb HZ7 HW7 HC7 HD7 HDC
      have c0 := (blk_cell HZ8.out 0).trans rfl
      have c1 := (blk_cell HZ8.out 1).trans rfl
      have c2 := (blk_cell HZ8.out 2).trans rfl
      go_wp2_with fail
      refine (awake_calls (HM.out.below HW8.out)).mono ?_
      rintro en w9 ⟨rfl, hb⟩
      have HW9 := Aside0.mk (below_step HW8.out hb)
      clear hb
      go_wp2_with fail
      go_ret
      exact ⟨rfl, HW9.out⟩
end Go.Proofs.YtdekhhimjnockaaDoor.Tu
