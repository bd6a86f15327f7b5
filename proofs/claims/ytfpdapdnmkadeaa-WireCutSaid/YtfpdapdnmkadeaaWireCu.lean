/- WireCut: what the law's call comes to. -/
import Derived.Test.YtfpdapdnmkadeaaWireORef
import Derived.Test.YtfpdapdnmkadeaaWireAwake
namespace Go.Proofs.Ytfpdapdnmkadeaa.Wire
open Go.RowKit Go.Proofs.YtfpdapdnmkadeaaW.PrintWords Go.Proofs.YtfpdapdnmkadeaaW.PrintLast Go.Proofs.YtfpdapdnmkadeaaW.PrintMore
open Go.Proofs.Ytfpdapdnmkadeaa Go.Proofs.Ytfpdapdnmkadeaa.Vals Go.Proofs.Ytfpdapdnmkadeaa.Word Go.Proofs.Ytfpdapdnmkadeaa.Q
open Go.Proofs.Ytfpdapdnmkadeaa.O (S52 k52 z52 rd_T52 at_T52)
set_option linter.unusedVariables false
set_option linter.unusedSimpArgs false

theorem be_inj4 {a b : Nat} (ha : a ≤ 65536) (hb : b ≤ 65536) (h : be 4 (a : Int) = be 4 (b : Int)) : a = b := by
  have h1 := congrArg num h
  rw [num_be' (by omega) (by omega), num_be' (by omega) (by omega)] at h1
  omega
/-- No script's bytes begin another's. -/
theorem encS_pre {l l' : List S52} (h : all l) (h' : all l') (hl : l.length ≤ 65536) (hl' : l'.length ≤ 65536) {r : List Int} (he : encS l = encS l' ++ r) : r = [] := by
  unfold encS at he
  rw [List.append_assoc] at he
  obtain ⟨h1, h2⟩ := List.append_inj he (by rw [be_length, be_length])
  have hn := be_inj4 hl hl' h1
  have a1 := rOs_app l [] h
  have a2 := rOs_app l' r h'
  rw [List.append_nil, h2, hn, a2] at a1
  simp at a1
  exact a1.2
theorem encA_pre {E E' : Int} {s s' : ByteArray} {l l' : List S27} (h : told E s l) (h' : told E' s' l') (hl : l.length ≤ 65536) (hl' : l'.length ≤ 65536) {r : List Int} (he : encA E s l = encA E' s' l' ++ r) : r = [] := by
  unfold encA at he
  simp only [List.append_assoc] at he
  obtain ⟨h1, h2⟩ := List.append_inj he (by rw [be_length, be_length])
  obtain ⟨c1, c2, c3⟩ := rd_app (k := 2) s (be 4 (l.length : Int) ++ encP l) (by have := h.2.2.2; omega)
  obtain ⟨d1, d2, d3⟩ := rd_app (k := 2) s' (be 4 (l'.length : Int) ++ (encP l' ++ r)) (by have := h'.2.2.2; omega)
  rw [h2, d2] at c2
  obtain ⟨h3, h4⟩ := List.append_inj c2 (by rw [be_length, be_length])
  have hn := be_inj4 hl' hl h3
  have a1 := rP_app l [] h.1
  have a2 := rP_app l' r h'.1
  rw [List.append_nil, ← h4, ← hn, a2] at a1
  simp at a1
  exact a1.2
theorem cutS_none {l : List S52} (h : all l) (hl : l.length ≤ 65536) {m : Nat} (hm : m < (encS l).length) : ∀ l', ¬ okO ((encS l).take m) l' := by
  intro l' h'
  obtain ⟨g1, g2, g3⟩ := okO_back ((byte_encS l).take m) h'
  have h1 := encS_pre h g1 hl g3 (r := (encS l).drop m) (by rw [g2, List.take_append_drop])
  have h2 := congrArg List.length h1
  rw [List.length_drop] at h2
  simp at h2
  omega
theorem moreS_none {l : List S52} (h : all l) (hl : l.length ≤ 65536) {a : Int} (ha : 0 ≤ a ∧ a ≤ 255) : ∀ l', ¬ okO (encS l ++ [a]) l' := by
  intro l' h'
  obtain ⟨g1, g2, g3⟩ := okO_back (Byte.app (byte_encS l) (fun c hc => by simp at hc; subst hc; exact ha)) h'
  have h1 := encS_pre g1 h g3 hl g2
  cases h1
theorem cutA_none {E : Int} {s : ByteArray} {l : List S27} (h : told E s l) (hl : l.length ≤ 65536) {m : Nat} (hm : m < (encA E s l).length) : ¬ okA ((encA E s l).take m) := by
  intro h'
  obtain ⟨g1, g2, g3⟩ := okA_back ((byte_encA E s l).take m) h'
  have h1 := encA_pre h g1 hl g3 (r := (encA E s l).drop m) (by rw [g2, List.take_append_drop])
  have h2 := congrArg List.length h1
  rw [List.length_drop] at h2
  simp at h2
  omega
theorem moreA_none {E : Int} {s : ByteArray} {l : List S27} (h : told E s l) (hl : l.length ≤ 65536) {a : Int} (ha : 0 ≤ a ∧ a ≤ 255) : ¬ okA (encA E s l ++ [a]) := by
  intro h'
  obtain ⟨g1, g2, g3⟩ := okA_back (Byte.app (byte_encA E s l) (fun c hc => by simp at hc; subst hc; exact ha)) h'
  have h1 := encA_pre g1 h g3 hl g2
  cases h1

set_option maxHeartbeats 16000000 in
set_option maxRecDepth 100000 in
theorem cut_calls {w : World} (A : Option Addr) (c : Nat) (l : List S52) (E : Int) (s : ByteArray) (A3 : Option Addr) (c3 : Nat) (p : List S27) (a : Int) (hC : Kd.C k52 w A l.length l) (hc : l.length ≤ c) (hl : l.length * 48 ≤ 140737488351232)
    (hC3 : Kd.C k27 w A3 p.length p) (hc3 : p.length ≤ c3) (hp : p.length * 32 ≤ 140737488351232) (hs : s.size ≤ 140737488351232) (ha : 0 ≤ a ∧ a ≤ 255) :
    Calls Try.prog 7 #[.slice A l.length c, .agg #[.int .i64 E, .string s, .slice A3 p.length c3], .int .u8 a] w fun e w' => e = .returned (.bool true) ∧ Below w.heap.size w w' := by
  have HS0 := Aside0.mk (blk_new w (.cells #[.int .i64 E, .string s, .slice A3 p.length c3] 25))
  have hba := below_alloc (Below.refl w.heap.size w) (.cells #[.int .i64 E, .string s, .slice A3 p.length c3] 25)
  have HB0 := Aside0.mk hba
  have HL0 := Aside0.mk (Kd.C_below hC hba)
  have HP0 := Aside0.mk (Kd.C_below hC3 hba)
  obtain ⟨r, hlc, hr⟩ := light_calls (w := w.alloc (.cells #[.int .i64 E, .string s, .slice A3 p.length c3] 25)) A c l (Kd.C_below hC hba) hc (by omega)
  have HLC := Aside0.mk hlc
  have HRR := Aside0.mk hr
  have HC := Aside0.mk hc
  have HC3 := Aside0.mk hc3
  have HLL := Aside0.mk (And.intro hl (And.intro hp hs))
  have HA := Aside0.mk ha
  clear hlc hr hC hc hl hC3 hc3 hp hs ha hba
  go_enter Try.func7, Try.ntmps7
  go_upto_region 1 with fail
  generalize w.alloc (.cells #[.int .i64 E, .string s, .slice A3 p.length c3] 25) = w0 at HS0 HB0 HL0 HP0 HLC ⊢
  obtain ⟨S, hS⟩ : ∃ S, w.heap.size = S := ⟨_, rfl⟩
  rw [hS] at HS0
  try rw [hS]
  clear hS
  go_wp2_with fail
  refine HLC.out.mono ?_
  rintro en w1 ⟨rfl, hb⟩
  have HB1 := Aside0.mk (below_step HB0.out hb)
  have HS1 := Aside0.mk (blk_below HS0.out hb)
  have HL1 := Aside0.mk (Kd.C_below HL0.out hb)
  have HP1 := Aside0.mk (Kd.C_below HP0.out hb)
  clear hb HLC HB0 HS0 HL0 HP0
  cases r
  · go_wp2_with fail
    refine (awake_calls _).mono ?_
    rintro en w2 ⟨rfl, hb⟩
    have HB2 := Aside0.mk (below_step HB1.out hb)
    clear hb
    go_wp2_with fail
    go_ret
    exact ⟨by simp, HB2.out⟩
  have HLN := Aside0.mk (HRR.out rfl)
  clear HRR
  go_wp2_with fail
  refine (rall_calls A c l HL1.out HC.out (by have := HLN.out; omega)).mono ?_
  rintro en w2 ⟨rfl, hb⟩
  have HB2 := Aside0.mk (below_step HB1.out hb)
  have HS2 := Aside0.mk (blk_below HS1.out hb)
  have HL2 := Aside0.mk (Kd.C_below HL1.out hb)
  have HP2 := Aside0.mk (Kd.C_below HP1.out hb)
  clear hb HB1 HS1 HL1 HP1
  by_cases hall : all l
  rotate_left
  · rw [decide_eq_false hall]
    go_wp2_with fail
    refine (awake_calls _).mono ?_
    rintro en w3 ⟨rfl, hb⟩
    have HB3 := Aside0.mk (below_step HB2.out hb)
    clear hb
    go_wp2_with fail
    go_ret
    exact ⟨by simp, HB3.out⟩
  rw [decide_eq_true hall]
  have HALL := Aside0.mk hall
  clear hall
  have k0 := (blk_cell HS2.out 0).trans rfl
  have k1 := (blk_cell HS2.out 1).trans rfl
  have k2 := (blk_cell HS2.out 2).trans rfl
  go_wp2_with fail
  clear k0 k1 k2
  refine (as_calls E s A3 p.length c3 _).mono ?_
  rintro en w3 ⟨rfl, hb⟩
  have HB3 := Aside0.mk (below_step HB2.out hb)
  have HS3 := Aside0.mk (blk_below HS2.out hb)
  have HL3 := Aside0.mk (Kd.C_below HL2.out hb)
  have HP3 := Aside0.mk (Kd.C_below HP2.out hb)
  clear hb HB2 HS2 HL2 HP2
  go_wp2_with fail
  refine (rtold_calls E s A3 c3 p HP3.out HC3.out (by have := HLL.out; omega)).mono ?_
  rintro en w4 ⟨rfl, hb⟩
  have HB4 := Aside0.mk (below_step HB3.out hb)
  have HS4 := Aside0.mk (blk_below HS3.out hb)
  have HL4 := Aside0.mk (Kd.C_below HL3.out hb)
  have HP4 := Aside0.mk (Kd.C_below HP3.out hb)
  clear hb HB3 HS3 HL3 HP3
  by_cases htd : told E s p
  rotate_left
  · rw [decide_eq_false htd]
    go_wp2_with fail
    refine (awake_calls _).mono ?_
    rintro en w5 ⟨rfl, hb⟩
    have HB5 := Aside0.mk (below_step HB4.out hb)
    clear hb
    go_wp2_with fail
    go_ret
    exact ⟨by simp, HB5.out⟩
  rw [decide_eq_true htd]
  have HTD := Aside0.mk htd
  clear htd
  have k2 := (blk_cell HS4.out 2).trans rfl
  by_cases hp1 : 100 < p.length
  · have g1 : decide ((100 : Int) < (p.length : Int)) = true := decide_eq_true (by omega)
    go_wp2_with fail
    clear k2
    refine (awake_calls _).mono ?_
    rintro en w5 ⟨rfl, hb⟩
    have HB5 := Aside0.mk (below_step HB4.out hb)
    clear hb
    go_wp2_with fail
    go_ret
    exact ⟨by simp, HB5.out⟩
  have g1 : decide ((100 : Int) < (p.length : Int)) = false := decide_eq_false (by omega)
  have HPN := Aside0.mk (show p.length ≤ 100 by omega)
  clear hp1
  go_wp2_with fail
  clear k2 g1
  refine (script_calls A c l (by have := HLN.out; omega) _ HL4.out).mono ?_
  rintro en w5 ⟨u5, z5, rfl, _, hgood, hb⟩
  rw [sBad_is] at hgood
  obtain ⟨rfl, hR⟩ := hgood (by rw [decide_eq_true HALL.out]; rfl)
  rw [sB_all HALL.out] at hR
  have HLB := Aside0.mk (show 4 ≤ (encS l).length ∧ (encS l).length ≤ 10000000 by
    have h1 := encS_len HALL.out
    have h2 := HLN.out
    have h3 : (encS l).length = 4 + (encOs l).length := by unfold encS; rw [List.length_append, be_length]
    omega)
  obtain ⟨A5, c5, rfl, hc5, hC5⟩ := Kd.R_reads hR
  obtain ⟨B5, hB5⟩ : ∃ B5, w4.heap.size = B5 := ⟨_, rfl⟩
  rw [hB5] at hR
  have HNB := Aside0.mk (show w.heap.size ≤ B5 ∧ S < B5 by rw [← hB5]; exact ⟨HB4.out.size, blk_lt HS4.out⟩)
  have HR5 := Aside0.mk hR
  have HCC5 := Aside0.mk hc5
  have HB5 := Aside0.mk (below_step HB4.out hb)
  have HS5 := Aside0.mk (blk_below HS4.out hb)
  have HP5 := Aside0.mk (Kd.C_below HP4.out hb)
  have HBS5 := Aside0.mk (show B5 ≤ w5.heap.size by rw [← hB5]; exact hb.size)
  clear hb HB4 HS4 HL4 HP4 hgood hR hc5 hC5 hB5
  have k0 := (blk_cell HS5.out 0).trans rfl
  have k1 := (blk_cell HS5.out 1).trans rfl
  have k2 := (blk_cell HS5.out 2).trans rfl
  go_wp2_with fail
  clear k0 k1 k2
  refine (answer_calls E s A3 c3 p (by have := HPN.out; omega) _ HP5.out).mono ?_
  rintro en w6 ⟨u6, z6, rfl, _, hgood, hb⟩
  rw [aBad_is] at hgood
  obtain ⟨rfl, hR⟩ := hgood (by rw [decide_eq_true HTD.out]; rfl)
  rw [aB_told HTD.out] at hR
  have HLA := Aside0.mk (show 7 ≤ (encA E s p).length ∧ (encA E s p).length ≤ 10000000 by
    rw [encA_len]
    have h1 := HTD.out.2.2.2
    have h2 := HPN.out
    have h3 : tot p ≤ 65790 * p.length := by
      have h4 := HTD.out.1
      clear hgood hR
      generalize p = q at h4
      induction q with
      | nil => simp [tot]
      | cons x t ih =>
        have h5 := h4 x (by simp)
        have h6 := ih (fun y hy => h4 y (by simp [hy]))
        simp only [tot, List.length_cons]
        omega
    omega)
  obtain ⟨A6, c6, rfl, hc6, hC6⟩ := Kd.R_reads hR
  obtain ⟨B6, hB6⟩ : ∃ B6, w5.heap.size = B6 := ⟨_, rfl⟩
  rw [hB6] at hR
  have HNB6 := Aside0.mk (show w.heap.size ≤ B6 ∧ ∀ k, (Value.slice A5 (encS l).length c5).ownBlock = some k → k < B6 by rw [← hB6]; exact ⟨HB5.out.size, Kd.R_lt HR5.out⟩)
  have HR6 := Aside0.mk hR
  have HCC6 := Aside0.mk hc6
  have HB6 := Aside0.mk (below_step HB5.out hb)
  have HQ6 := Aside0.mk (Kd.R_below HR5.out hb)
  have HBS6 := Aside0.mk (show B5 ≤ w6.heap.size ∧ B6 ≤ w6.heap.size from ⟨Nat.le_trans HBS5.out hb.size, by rw [← hB6]; exact hb.size⟩)
  clear hb HB5 HS5 HP5 HR5 HBS5 hgood hR hc6 hC6 hB6
  obtain ⟨A', c', heq, hc', hC'⟩ := Kd.R_reads HQ6.out
  cases heq
  obtain ⟨hs5, hv5, _⟩ := cut_bytes (m := (encS l).length - 1) hC' hc' (by omega)
  have HV6 := Aside0.mk hv5
  rw [show (((encS l).length - 1 : Nat) : Int) = ((encS l).length : Int) - 1 by have := HLB.out; omega] at hs5
  have hlb := HLB.out
  have hla := HLA.out
  have d4 : decide (((encS l).length : Int) < 4) = false := decide_eq_false (by omega)
  have d7 : decide (((encA E s p).length : Int) < 7) = false := decide_eq_false (by omega)
  clear hc' hC' hv5
  go_wp2_with fail
  clear hs5 d4 d7
  refine (ops_calls HV6.out ((byte_encS l).take _) (by rw [List.length_take]; omega)).mono ?_
  rintro en w7 ⟨_, hen, hb⟩
  have hen := hen (cutS_none HALL.out (by have := HLN.out; omega) (by omega))
  subst hen
  have HB7 := Aside0.mk (below_step HB6.out hb)
  have HQ7 := Aside0.mk (Kd.R_below HQ6.out hb)
  have HR7 := Aside0.mk (Kd.R_below HR6.out hb)
  have HBS7 := Aside0.mk (show B5 ≤ w7.heap.size ∧ B6 ≤ w7.heap.size from ⟨Nat.le_trans HBS6.out.1 hb.size, Nat.le_trans HBS6.out.2 hb.size⟩)
  clear hb HB6 HQ6 HR6 HBS6 HV6
  go_wp2_with (first | (at_builtin; refine Kd.R_append (Kd.int .u8) (w0 := w7) B5 rfl (.tmp 76) (.tmp 78) 29 5 (.int .u8 0) 1 rfl Try.underlying29 info_byte rfl (by decide) (by decide) (.slice A5 (encS l).length c5) (encS l) a [.int .u8 a] (fun _ => True) (fun _ => False) rfl rfl ?aP (fun _ hk => hk.elim) ?aF ?aO ?aB ?aS ?aL ?_; (case aP => exact rfl); (case aB => exact Below.refl _ _); (case aF => exact (fun _ _ => trivial)); (case aO => exact HQ7.out); (case aS => exact HBS7.out.1); (case aL => omega); intro v8 w8 ho hb hg hat; have HV8 := Aside0.mk (Kd.R_reads ho); have HR8 := Aside0.mk (Kd.R_grown2 HR7.out rfl hg (fun k h1 h2 => by have h3 := HNB6.out.2 k h1; have h4 := Kd.R_base HR7.out k h2.symm; omega)); have HB8 := Aside0.mk (below_trans HB7.out (below_less hb HNB.out.1)); have HBS8 := Aside0.mk (Nat.le_trans HBS7.out.2 hb.size); clear ho hb hg hat))
  refine (ops_calls (show Bys (encS l ++ [a]) _ w8 from HV8.out) (Byte.app (byte_encS l) (fun c hc => by simp at hc; subst hc; exact HA.out)) (by rw [List.length_append, List.length_singleton]; omega)).mono ?_
  rintro en w9 ⟨_, hen, hb⟩
  have hen := hen (moreS_none HALL.out (by have := HLN.out; omega) HA.out)
  subst hen
  have HB9 := Aside0.mk (below_step HB8.out hb)
  have HR9 := Aside0.mk (Kd.R_below HR8.out hb)
  have HBS9 := Aside0.mk (Nat.le_trans HBS8.out hb.size)
  clear hb HB8 HR8 HBS8 HV8 HQ7 HR7 HB7 HBS7
  obtain ⟨A', c', heq, hc', hC'⟩ := Kd.R_reads HR9.out
  cases heq
  obtain ⟨hs6, hv6, _⟩ := cut_bytes (m := (encA E s p).length - 1) hC' hc' (by omega)
  have HV9 := Aside0.mk hv6
  rw [show (((encA E s p).length - 1 : Nat) : Int) = ((encA E s p).length : Int) - 1 by omega] at hs6
  clear hc' hC' hv6
  go_wp2_with fail
  clear hs6
  refine (told_calls HV9.out ((byte_encA E s p).take _) (by rw [List.length_take]; omega)).mono ?_
  rintro en w10 ⟨_, hen, hb⟩
  have hen := hen (cutA_none HTD.out (by have := HPN.out; omega) (by omega))
  unfold noAns at hen
  subst hen
  have HB10 := Aside0.mk (below_step HB9.out hb)
  have HR10 := Aside0.mk (Kd.R_below HR9.out hb)
  have HBS10 := Aside0.mk (Nat.le_trans HBS9.out hb.size)
  clear hb HB9 HR9 HBS9 HV9
  go_upto_region 10 with fail
  have hba := below_alloc (Below.refl w10.heap.size w10) (.cells #[.int .i64 0, .string ⟨#[]⟩, .slice none 0 0] 25)
  have HB11 := Aside0.mk (below_step HB10.out hba)
  have HR11 := Aside0.mk (Kd.R_below HR10.out hba)
  have HBS11 := Aside0.mk (Nat.le_trans HBS10.out hba.size)
  clear hba HB10 HR10 HBS10
  generalize w10.alloc (.cells #[.int .i64 0, .string ⟨#[]⟩, .slice none 0 0] 25) = w11 at HB11 HR11 HBS11 ⊢
  generalize w10.heap.size = T
  go_wp2_with (first | (at_builtin; refine Kd.R_append (Kd.int .u8) (w0 := w11) B6 rfl (.tmp 93) (.tmp 95) 29 5 (.int .u8 0) 1 rfl Try.underlying29 info_byte rfl (by decide) (by decide) (.slice A6 (encA E s p).length c6) (encA E s p) a [.int .u8 a] (fun _ => True) (fun _ => False) rfl rfl ?aP (fun _ hk => hk.elim) ?aF ?aO ?aB ?aS ?aL ?_; (case aP => exact rfl); (case aB => exact Below.refl _ _); (case aF => exact (fun _ _ => trivial)); (case aO => exact HR11.out); (case aS => exact HBS11.out); (case aL => omega); intro v12 w12 ho hb hg hat; have HV12 := Aside0.mk (Kd.R_reads ho); have HB12 := Aside0.mk (below_trans HB11.out (below_less hb HNB6.out.1)); clear ho hb hg hat))
  refine (told_calls (show Bys (encA E s p ++ [a]) _ w12 from HV12.out) (Byte.app (byte_encA E s p) (fun c hc => by simp at hc; subst hc; exact HA.out)) (by rw [List.length_append, List.length_singleton]; omega)).mono ?_
  rintro en w13 ⟨_, hen, hb⟩
  have hen := hen (moreA_none HTD.out (by have := HPN.out; omega) HA.out)
  unfold noAns at hen
  subst hen
  have HB13 := Aside0.mk (below_step HB12.out hb)
  clear hb HB12 HV12 HB11 HR11 HBS11
  go_upto_region 11 with fail
  have HB14 := Aside0.mk (below_alloc HB13.out (.cells #[.int .i64 0, .string ⟨#[]⟩, .slice none 0 0] 25))
  clear HB13
  generalize w13.alloc (.cells #[.int .i64 0, .string ⟨#[]⟩, .slice none 0 0] 25) = w14 at HB14 ⊢
  go_wp2_with fail
  refine (awake_calls _).mono ?_
  rintro en w15 ⟨rfl, hb⟩
  have HB15 := Aside0.mk (below_step HB14.out hb)
  clear hb
  go_wp2_with fail
  go_ret
  exact ⟨by simp, HB15.out⟩
end Go.Proofs.Ytfpdapdnmkadeaa.Wire
