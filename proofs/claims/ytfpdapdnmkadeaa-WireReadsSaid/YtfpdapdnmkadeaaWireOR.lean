/- What reads an op. -/
import Derived.Test.YtfpdapdnmkadeaaWireS
import Derived.Test.YtfpdapdnmkadeaaWireR
import Derived.Test.YtfpdapdnmkadeaaRegS
namespace Go.Proofs.Ytfpdapdnmkadeaa.Wire
open Go.RowKit Go.Proofs.YtfpdapdnmkadeaaW.PrintWords Go.Proofs.YtfpdapdnmkadeaaW.PrintLast Go.Proofs.YtfpdapdnmkadeaaW.PrintMore
open Go.Proofs.Ytfpdapdnmkadeaa Go.Proofs.Ytfpdapdnmkadeaa.Vals Go.Proofs.Ytfpdapdnmkadeaa.Word Go.Proofs.Ytfpdapdnmkadeaa.Q
open Go.Proofs.Ytfpdapdnmkadeaa.O (S52 k52 z52 rd_T52 at_T52)
set_option linter.unusedVariables false
set_option linter.unusedSimpArgs false

def oV (o : S52) : Value := .agg #[.int .i64 o.f0, .string o.f1, .string o.f2, .int .i64 o.f3]
/-- What an op's reading tells: the op, what is left, the state, and whether it is one. -/
def rdK (K : Int) (b : List Int) (e : Int) : S52 × List Int × Int × Bool :=
  if K = 1 then (⟨K, rdS 1 b e, rdS 2 (rdB 1 b e) (rdE 1 b e), 0⟩, rdB 2 (rdB 1 b e) (rdE 1 b e), rdE 2 (rdB 1 b e) (rdE 1 b e), rdE 2 (rdB 1 b e) (rdE 1 b e) == 0)
  else if K = 2 ∨ K = 3 then (⟨K, rdS 1 b e, ⟨#[]⟩, 0⟩, rdB 1 b e, rdE 1 b e, rdE 1 b e == 0)
  else if K = 4 then (⟨K, rdS 1 b e, rdS 1 (rdB 1 b e) (rdE 1 b e), num (rawO (rdB 1 (rdB 1 b e) (rdE 1 b e)) (rdE 1 (rdB 1 b e) (rdE 1 b e)) ((4 : Nat) : Int))⟩, rawB (rdB 1 (rdB 1 b e) (rdE 1 b e)) (rdE 1 (rdB 1 b e) (rdE 1 b e)) ((4 : Nat) : Int), rawE (rdB 1 (rdB 1 b e) (rdE 1 b e)) (rdE 1 (rdB 1 b e) (rdE 1 b e)) ((4 : Nat) : Int),
    decide (num (rawO (rdB 1 (rdB 1 b e) (rdE 1 b e)) (rdE 1 (rdB 1 b e) (rdE 1 b e)) ((4 : Nat) : Int)) ≤ 2147483647) && (rawE (rdB 1 (rdB 1 b e) (rdE 1 b e)) (rdE 1 (rdB 1 b e) (rdE 1 b e)) ((4 : Nat) : Int) == 0))
  else if K = 5 ∨ K = 6 ∨ K = 7 then (⟨K, ⟨#[]⟩, ⟨#[]⟩, 0⟩, b, e, e == 0) else (⟨K, ⟨#[]⟩, ⟨#[]⟩, 0⟩, b, e, false)
def rdOp (bs : List Int) (e : Int) : S52 × List Int × Int × Bool := rdK (num (rawO bs e ((1 : Nat) : Int))) (rawB bs e ((1 : Nat) : Int)) (rawE bs e ((1 : Nat) : Int))
def OPost (w : World) (g : Nat) (r : S52 × List Int × Int × Bool) (en : Ending) (w' : World) : Prop := en = .returned (.tuple #[oV r.1, .bool r.2.2.2]) ∧ Rd w' g r.2.1 r.2.2.1 ∧ Keeps (fun k => k = g) w w'
theorem keeps_high {w w' : World} {N : Nat} (h : Below N w w') : Keeps (fun k => N ≤ k) w w' := ⟨h.os, h.tape, h.output, h.size, fun i _ hn => h.block i (by have h1 : ¬ N ≤ i := hn; omega)⟩
theorem four_put {w : World} {S : Nat} {t : TypeId} {a0 a1 a2 a3 : Value} (h : w.heap[S]? = some (.cells #[a0, a1, a2, a3] t (0, 0))) (c0 c1 c2 c3 : Value) :
    ((((w.setCell ⟨S, 0, none⟩ c0).setCell ⟨S, 1, none⟩ c1).setCell ⟨S, 2, none⟩ c2).setCell ⟨S, 3, none⟩ c3).heap[S]? = some (.cells #[c0, c1, c2, c3] t (0, 0)) ∧ Below S w ((((w.setCell ⟨S, 0, none⟩ c0).setCell ⟨S, 1, none⟩ c1).setCell ⟨S, 2, none⟩ c2).setCell ⟨S, 3, none⟩ c3) := by
  have h1 := blk_put (cs' := #[c0, a1, a2, a3]) h 0 c0 (by simp)
  have h2 := blk_put (cs' := #[c0, c1, a2, a3]) h1 1 c1 (by simp)
  have h3 := blk_put (cs' := #[c0, c1, c2, a3]) h2 2 c2 (by simp)
  have h4 := blk_put (cs' := #[c0, c1, c2, c3]) h3 3 c3 (by simp)
  exact ⟨h4, below_setB (p := ⟨S, 3, none⟩) (below_setB (p := ⟨S, 2, none⟩) (below_setB (p := ⟨S, 1, none⟩) (below_setB (p := ⟨S, 0, none⟩) (Below.refl S w) (Nat.le_refl _) c0) (Nat.le_refl _) c1) (Nat.le_refl _) c2) (Nat.le_refl _) c3⟩

set_option maxHeartbeats 8000000 in
set_option maxRecDepth 100000 in
theorem rop_put {w : World} {g : Nat} {bs : List Int} {e : Int} (h : Rd w g bs e) (hby : Byte bs) {K : Int} (hK : num (rawO bs e ((1 : Nat) : Int)) = K) (hk1 : K = 1) :
    Calls Try.prog 38 #[.pointer (some ⟨g, 0, none⟩)] w (OPost w g (rdOp bs e)) := by
  have HZ := Aside0.mk (blk_new w (.cells #[.int .i64 0, .string ⟨#[]⟩, .string ⟨#[]⟩, .int .i64 0] 52))
  have HB := Aside0.mk (below_alloc (Below.refl w.heap.size w) (.cells #[.int .i64 0, .string ⟨#[]⟩, .string ⟨#[]⟩, .int .i64 0] 52))
  have HN := Aside0.mk (num_wide (h.below HB.out) hby (n := ((1 : Nat) : Int)) (by decide))
  have HGN := Aside0.mk h.lt
  have HY := Aside0.mk (show Byte (rawB bs e ((1 : Nat) : Int)) from hby.rawB _ _)
  have hEb := num4_bd (hby.rawO e ((1 : Nat) : Int)) (by have := rawO_le bs e 1; omega)
  rw [hK] at hEb HN
  have HRD := Aside0.mk (show rdOp bs e = rdK K (rawB bs e ((1 : Nat) : Int)) (rawE bs e ((1 : Nat) : Int)) by unfold rdOp; rw [hK])
  clear h hby hK
  generalize rawB bs e ((1 : Nat) : Int) = b1 at HN HY HRD
  generalize rawE bs e ((1 : Nat) : Int) = e1 at HN HRD
  go_enter Try.func38, Try.ntmps38
  go_upto_region 1 with fail
  obtain ⟨N, hN⟩ : ∃ N, w.heap.size = N := ⟨_, rfl⟩
  have HNE := Aside0.mk hN
  rw [hN] at HZ HGN
  try rw [hN]
  clear hN
  generalize w.alloc (.cells #[.int .i64 0, .string ⟨#[]⟩, .string ⟨#[]⟩, .int .i64 0] 52) = w1 at HZ HB HN ⊢
  go_wp2_with fail
  refine HN.out.mono ?_
  rintro en w2 ⟨rfl, hr, hk⟩
  have HR2 := Aside0.mk hr
  have HK2 := Aside0.mk ((Keeps.of_below HB.out (fun k => k = g)).then_ hk (fun i h => Or.inl h))
  have HZ2 := Aside0.mk (hk.blk HZ.out (by have := HGN.out; omega))
  clear hr hk HN HZ HB
  subst hk1
  unfold rdK at HRD
  rw [if_pos rfl] at HRD
  go_upto_region 2 with fail
  have HT := Aside0.mk (blk_new w2 (.cells #[.int .i64 1, .string ⟨#[]⟩, .string ⟨#[]⟩, .int .i64 0] 52))
  have HR := Aside0.mk (HR2.out.below (below_alloc (Below.refl _ _) (.cells #[.int .i64 1, .string ⟨#[]⟩, .string ⟨#[]⟩, .int .i64 0] 52)))
  have HKP := Aside0.mk (HK2.out.then_below (below_alloc (Below.refl _ _) (.cells #[.int .i64 1, .string ⟨#[]⟩, .string ⟨#[]⟩, .int .i64 0] 52)))
  have HZ := Aside0.mk (blk_below HZ2.out (below_alloc (Below.refl _ _) (.cells #[.int .i64 1, .string ⟨#[]⟩, .string ⟨#[]⟩, .int .i64 0] 52)))
  have HGT := Aside0.mk (show N < w2.heap.size ∧ g < w2.heap.size from ⟨blk_lt HZ2.out, HR2.out.lt⟩)
  clear HR2 HK2 HZ2
  generalize w2.alloc (.cells #[.int .i64 1, .string ⟨#[]⟩, .string ⟨#[]⟩, .int .i64 0] 52) = w3 at HT HR HKP HZ ⊢
  generalize w2.heap.size = T at HT HGT ⊢
  have k0 := (blk_cell HT.out 0).trans rfl
  go_wp2_with fail
  clear k0
  refine (rshort_calls HR.out HY.out).mono ?_
  rintro en w4 ⟨rfl, hr, hk⟩
  have HY2 := Aside0.mk (show Byte (rdB 1 b1 e1) from by unfold rdB; exact (HY.out.rawB _ _).rawB _ _)
  have HR1 := Aside0.mk hr
  have HK1 := Aside0.mk (HKP.out.trans hk)
  have HT1 := Aside0.mk (hk.blk HT.out (by have := HGT.out; have := HGN.out; omega))
  have HZ1 := Aside0.mk (hk.blk HZ.out (by have := HGN.out; omega))
  clear hr hk HR HKP HT HZ
  have HR := HR1
  have HKP := HK1
  have HT := HT1
  have HZ := HZ1
  clear HR1 HK1 HT1 HZ1
  generalize rdS 1 b1 e1 = s1 at HRD ⊢
  generalize rdB 1 b1 e1 = b2 at HRD HY2 HR
  generalize rdE 1 b1 e1 = e2 at HRD HR
  clear HY
  have HY := HY2
  clear HY2
  go_wp2_with fail

  refine (rlong_calls HR.out HY.out).mono ?_
  rintro en w5 ⟨rfl, hr, hk⟩
  have HY2 := Aside0.mk (show Byte (rdB 2 b2 e2) from by unfold rdB; exact (HY.out.rawB _ _).rawB _ _)
  have HR1 := Aside0.mk hr
  have HK1 := Aside0.mk (HKP.out.trans hk)
  have HT1 := Aside0.mk (hk.blk HT.out (by have := HGT.out; have := HGN.out; omega))
  have HZ1 := Aside0.mk (hk.blk HZ.out (by have := HGN.out; omega))
  clear hr hk HR HKP HT HZ
  have HR := HR1
  have HKP := HK1
  have HT := HT1
  have HZ := HZ1
  clear HR1 HK1 HT1 HZ1
  generalize rdS 2 b2 e2 = s2 at HRD ⊢
  generalize rdB 2 b2 e2 = b3 at HRD HY2 HR
  generalize rdE 2 b2 e2 = e3 at HRD HR
  clear HY
  have HY := HY2
  clear HY2
  have r1 := (blk_cell HT.out 1).trans rfl
  have f1 := blk_frozen HT.out 1
  have r2 := (blk_cell HT.out 2).trans rfl
  have f2 := blk_frozen HT.out 2
  go_upto_region 14 with fail
  clear r1 f1
  clear r2 f2
  have HR1 := Aside0.mk (Rd.high HR.out (below_setB (p := ⟨T, 1, none⟩) (Below.refl T _) (Nat.le_refl _) (.string s1)) HGT.out.2)
  have HT1 := Aside0.mk (blk_put (cs' := #[.int .i64 1, .string s1, .string ⟨#[]⟩, .int .i64 0]) HT.out 1 (.string s1) rfl)
  have HZ1 := Aside0.mk (((below_setB (p := ⟨T, 1, none⟩) (Below.refl T _) (Nat.le_refl _) (.string s1)).block N HGT.out.1).trans HZ.out)
  have HK1 := Aside0.mk (HKP.out.set (p := ⟨T, 1, none⟩) (Or.inr (by have := HNE.out; have := HGT.out; show w.heap.size ≤ T; omega)) (.string s1))
  clear HR HT HZ HKP
  have HR := HR1
  have HKP := HK1
  have HT := HT1
  have HZ := HZ1
  clear HR1 HK1 HT1 HZ1
  have HR1 := Aside0.mk (Rd.high HR.out (below_setB (p := ⟨T, 2, none⟩) (Below.refl T _) (Nat.le_refl _) (.string s2)) HGT.out.2)
  have HT1 := Aside0.mk (blk_put (cs' := #[.int .i64 1, .string s1, .string s2, .int .i64 0]) HT.out 2 (.string s2) rfl)
  have HZ1 := Aside0.mk (((below_setB (p := ⟨T, 2, none⟩) (Below.refl T _) (Nat.le_refl _) (.string s2)).block N HGT.out.1).trans HZ.out)
  have HK1 := Aside0.mk (HKP.out.set (p := ⟨T, 2, none⟩) (Or.inr (by have := HNE.out; have := HGT.out; show w.heap.size ≤ T; omega)) (.string s2))
  clear HR HT HZ HKP
  have HR := HR1
  have HKP := HK1
  have HT := HT1
  have HZ := HZ1
  clear HR1 HK1 HT1 HZ1
  generalize (w5.setCell ⟨T, 1, none⟩ (.string s1)).setCell ⟨T, 2, none⟩ (.string s2) = wf at HR HT HZ HKP ⊢
  have HM := Aside0.mk (show decide ((0 : Int) ≤ 2147483647) = true by decide)
  refine Reg.region_store 9 0 0 [7, 8] (fun v1 v2 w w' => w' = (((w.setCell ⟨N, 0, none⟩ (.int .i64 1)).setCell ⟨N, 1, none⟩ (.string s1)).setCell ⟨N, 2, none⟩ (.string s2)).setCell ⟨N, 3, none⟩ (.int .i64 0)) [Reg.Is (.agg #[.int .i64 1, .string s1, .string s2, .int .i64 0]), Reg.Is (.pointer (some ⟨T, 3, none⟩)), Reg.Is (.int .i64 0), Reg.Is (.bool true), Reg.Is (.bool true), Reg.Is (.pointer (some ⟨g, 0, none⟩)), Reg.Is (.int .i64 e3), Reg.Is (.bool (e3 == 0)), Reg.Is (.bool (e3 == 0))]
      [some 42, some 43, some 44, some 45, some 46, some 47, some 48, some 49, some 50] (by kernel_rfl) (by rfl) (by rfl) (by rfl) (by rfl) rfl (by kernel_rfl) (by kernel_rfl) (by kernel_rfl) ⟨Reg.mono_is _, Reg.mono_is _, Reg.mono_is _, Reg.mono_is _, Reg.mono_is _, Reg.mono_is _, Reg.mono_is _, Reg.mono_is _, Reg.mono_is _, trivial⟩ (Reg.noneOkN_of (by rfl)) ⟨?_, ?_, ?_, ?_, ?_, ?_, ?_, ?_, ?_, trivial⟩ ?_ ?_ ?_
  · intro a w hl   -- 0: slot 42
    have q4 : a.eval (.tmp 4) = .pointer (some ⟨T, 0, none⟩) := hl.out 4 rfl
    have qc : ∀ x, a.eval (.const x) = x := fun _ => rfl
    refine Reg.does_is (x := .agg #[.int .i64 1, .string s1, .string s2, .int .i64 0]) rfl rfl ?_
    have ht := blk_below HT.out hl.below
    have k0 := (blk_cell ht 0).trans rfl
    have k1 := (blk_cell ht 1).trans rfl
    have k2 := (blk_cell ht 2).trans rfl
    have k3 := (blk_cell ht 3).trans rfl
    clear hl ht
    generalize a.eval = ρ at *
    go_simp
  · intro a w hl   -- 1: slot 43
    have q4 : a.eval (.tmp 4) = .pointer (some ⟨T, 0, none⟩) := hl.out 4 rfl
    have qc : ∀ x, a.eval (.const x) = x := fun _ => rfl
    refine Reg.does_is (x := .pointer (some ⟨T, 3, none⟩)) rfl rfl ?_
    clear hl
    generalize a.eval = ρ at *
    go_simp
  · intro a w hl   -- 2: slot 44
    have q43 : a.eval (.tmp 43) = .pointer (some ⟨T, 3, none⟩) := hl.has 1 rfl
    have qc : ∀ x, a.eval (.const x) = x := fun _ => rfl
    refine Reg.does_is (x := .int .i64 0) rfl rfl ?_
    have ht := blk_below HT.out hl.below
    have k0 := (blk_cell ht 0).trans rfl
    have k1 := (blk_cell ht 1).trans rfl
    have k2 := (blk_cell ht 2).trans rfl
    have k3 := (blk_cell ht 3).trans rfl
    clear hl ht
    generalize a.eval = ρ at *
    go_simp
  · intro a w hl   -- 3: slot 45
    have q44 : a.eval (.tmp 44) = .int .i64 0 := hl.has 2 rfl
    have qc : ∀ x, a.eval (.const x) = x := fun _ => rfl
    refine Reg.does_is (x := .bool true) rfl rfl ?_
    have hm : decide ((0 : Int) ≤ 2147483647) = true := HM.out
    clear hl
    generalize a.eval = ρ at *
    go_simp
  · intro a w hl   -- 4: slot 46
    have q45 : a.eval (.tmp 45) = .bool true := hl.has 3 rfl
    have qc : ∀ x, a.eval (.const x) = x := fun _ => rfl
    refine Reg.does_is (x := .bool true) rfl rfl ?_
    clear hl
    generalize a.eval = ρ at *
    go_simp
  · intro a w hl   -- 5: slot 47
    have q0 : a.eval (.tmp 0) = .pointer (some ⟨g, 0, none⟩) := hl.out 0 rfl
    have q46 : a.eval (.tmp 46) = .bool true := hl.has 4 rfl
    have qc : ∀ x, a.eval (.const x) = x := fun _ => rfl
    refine Reg.does_is (x := .pointer (some ⟨g, 0, none⟩)) rfl (Reg.wanted_of rfl rfl (hl.yields 4 rfl rfl q46)) ?_
    clear hl
    generalize a.eval = ρ at *
    go_simp
  · intro a w hl   -- 6: slot 48
    have q47 : a.eval (.tmp 47) = .pointer (some ⟨g, 0, none⟩) := hl.has 5 rfl
    have q46 : a.eval (.tmp 46) = .bool true := hl.has 4 rfl
    have qc : ∀ x, a.eval (.const x) = x := fun _ => rfl
    refine Reg.does_call_is (x := .int .i64 e3) #[.pointer (some ⟨g, 0, none⟩)] rfl (Reg.wanted_of rfl rfl (hl.yields 4 rfl rfl q46)) Try.func29 (by kernel_rfl) rfl rfl (by simp [qc, q47]) ?_
    refine (err_calls (HR.out.below hl.below)).mono ?_
    rintro en w5 ⟨rfl, rfl⟩
    exact ⟨rfl, Below.refl _ _⟩
  · intro a w hl   -- 7: slot 49
    have q48 : a.eval (.tmp 48) = .int .i64 e3 := hl.has 6 rfl
    have q46 : a.eval (.tmp 46) = .bool true := hl.has 4 rfl
    have qc : ∀ x, a.eval (.const x) = x := fun _ => rfl
    refine Reg.does_is (x := .bool (e3 == 0)) rfl (Reg.wanted_of rfl rfl (hl.yields 4 rfl rfl q46)) ?_
    clear hl
    generalize a.eval = ρ at *
    go_simp
  · intro a w hl   -- 8: slot 50
    have q46 : a.eval (.tmp 46) = .bool true := hl.has 4 rfl
    have q49 : a.eval (.tmp 49) = .bool (e3 == 0) := hl.has 7 rfl
    have qc : ∀ x, a.eval (.const x) = x := fun _ => rfl
    refine Reg.does_is (x := .bool (e3 == 0)) rfl rfl ?_
    clear hl
    generalize a.eval = ρ at *
    go_simp
  · intro i hi   -- the free ones
    simp only [List.mem_cons, List.not_mem_nil, or_false] at hi
    rcases hi with rfl | rfl
    · intro o ho a w hl
      cases ho
      have q48 : a.eval (.tmp 48) = .int .i64 e3 := hl.has 6 rfl
      have q46 : a.eval (.tmp 46) = .bool true := hl.has 4 rfl
      have qc : ∀ x, a.eval (.const x) = x := fun _ => rfl
      refine ⟨Reg.wanted_of rfl rfl (hl.yields 4 rfl rfl q46), .bool (e3 == 0), rfl, fun w2 => ?_⟩
      clear hl
      generalize a.eval = ρ at *
      go_simp
    · intro o ho a w hl
      cases ho
      have q46 : a.eval (.tmp 46) = .bool true := hl.has 4 rfl
      have q49 : a.eval (.tmp 49) = .bool (e3 == 0) := hl.has 7 rfl
      have qc : ∀ x, a.eval (.const x) = x := fun _ => rfl
      refine ⟨rfl, .bool (e3 == 0), rfl, fun w2 => ?_⟩
      clear hl
      generalize a.eval = ρ at *
      go_simp
  · intro a w hl   -- the store
    have q2 : a.eval (.tmp 2) = .pointer (some ⟨N, 0, none⟩) := hl.out 2 rfl
    have q42 : a.eval (.tmp 42) = .agg #[.int .i64 1, .string s1, .string s2, .int .i64 0] := hl.has 0 rfl
    refine ⟨rfl, rfl, _, ?_, rfl⟩
    have hz := blk_below HZ.out hl.below
    have z0 := (blk_cell hz 0).trans rfl
    have z1 := (blk_cell hz 1).trans rfl
    have z2 := (blk_cell hz 2).trans rfl
    have z3 := (blk_cell hz 3).trans rfl
    have y0 := blk_frozen hz 0
    have y1 := blk_frozen hz 1
    have y2 := blk_frozen hz 2
    have y3 := blk_frozen hz 3
    clear hl hz
    generalize a.eval = ρ at *
    go_simp
  · rintro v w w5 hb ⟨e42, e43, e44, e45, e46, e47, e48, e49, e50, _⟩ hW
    replace e42 : v 0 = .agg #[.int .i64 1, .string s1, .string s2, .int .i64 0] := e42
    replace e43 : v 1 = .pointer (some ⟨T, 3, none⟩) := e43
    replace e44 : v 2 = .int .i64 0 := e44
    replace e45 : v 3 = .bool true := e45
    replace e46 : v 4 = .bool true := e46
    replace e47 : v 5 = .pointer (some ⟨g, 0, none⟩) := e47
    replace e48 : v 6 = .int .i64 e3 := e48
    replace e49 : v 7 = .bool (e3 == 0) := e49
    replace e50 : v 8 = .bool (e3 == 0) := e50
    simp only [Reg.putL, Act.put, List.setIfInBounds_toArray, List.set_cons_zero, List.set_cons_succ, e42, e43, e44, e45, e46, e47, e48, e49, e50]
    clear e42 e43 e44 e45 e46 e47 e48 e49 e50
    have hfin := four_put (blk_below HZ.out hb) (.int .i64 1) (.string s1) (.string s2) (.int .i64 0)
    rw [← hW] at hfin
    have HRE := Aside0.mk (Rd.high (HR.out.below hb) hfin.2 HGN.out)
    have HKE := Aside0.mk ((HKP.out.then_below hb).then_ (keeps_high hfin.2) (fun i h => Or.inr (by rw [HNE.out]; exact h)))
    clear hW
    generalize hxx : w5 = wy at hfin HRE HKE ⊢
    clear hxx hb
    go_wp2_with fail
    refine bodyPost_ret (results_ct rfl _ _ N 52 #[.int .i64 1, .string s1, .string s2, .int .i64 0] (0, 0) _ rfl hfin.1 Try.underlying52 rfl (by kernel_rfl)) rfl ?_
    unfold OPost
    rw [HRD.out]
    exact ⟨rfl, HRE.out, HKE.out⟩

set_option maxHeartbeats 8000000 in
set_option maxRecDepth 100000 in
theorem rop_del {w : World} {g : Nat} {bs : List Int} {e : Int} (h : Rd w g bs e) (hby : Byte bs) {K : Int} (hK : num (rawO bs e ((1 : Nat) : Int)) = K) (hk1 : K = 2) :
    Calls Try.prog 38 #[.pointer (some ⟨g, 0, none⟩)] w (OPost w g (rdOp bs e)) := by
  have HZ := Aside0.mk (blk_new w (.cells #[.int .i64 0, .string ⟨#[]⟩, .string ⟨#[]⟩, .int .i64 0] 52))
  have HB := Aside0.mk (below_alloc (Below.refl w.heap.size w) (.cells #[.int .i64 0, .string ⟨#[]⟩, .string ⟨#[]⟩, .int .i64 0] 52))
  have HN := Aside0.mk (num_wide (h.below HB.out) hby (n := ((1 : Nat) : Int)) (by decide))
  have HGN := Aside0.mk h.lt
  have HY := Aside0.mk (show Byte (rawB bs e ((1 : Nat) : Int)) from hby.rawB _ _)
  have hEb := num4_bd (hby.rawO e ((1 : Nat) : Int)) (by have := rawO_le bs e 1; omega)
  rw [hK] at hEb HN
  have HRD := Aside0.mk (show rdOp bs e = rdK K (rawB bs e ((1 : Nat) : Int)) (rawE bs e ((1 : Nat) : Int)) by unfold rdOp; rw [hK])
  clear h hby hK
  generalize rawB bs e ((1 : Nat) : Int) = b1 at HN HY HRD
  generalize rawE bs e ((1 : Nat) : Int) = e1 at HN HRD
  go_enter Try.func38, Try.ntmps38
  go_upto_region 1 with fail
  obtain ⟨N, hN⟩ : ∃ N, w.heap.size = N := ⟨_, rfl⟩
  have HNE := Aside0.mk hN
  rw [hN] at HZ HGN
  try rw [hN]
  clear hN
  generalize w.alloc (.cells #[.int .i64 0, .string ⟨#[]⟩, .string ⟨#[]⟩, .int .i64 0] 52) = w1 at HZ HB HN ⊢
  go_wp2_with fail
  refine HN.out.mono ?_
  rintro en w2 ⟨rfl, hr, hk⟩
  have HR2 := Aside0.mk hr
  have HK2 := Aside0.mk ((Keeps.of_below HB.out (fun k => k = g)).then_ hk (fun i h => Or.inl h))
  have HZ2 := Aside0.mk (hk.blk HZ.out (by have := HGN.out; omega))
  clear hr hk HN HZ HB
  subst hk1
  unfold rdK at HRD
  rw [if_neg (by decide), if_pos (Or.inl rfl)] at HRD
  go_upto_region 2 with fail
  have HT := Aside0.mk (blk_new w2 (.cells #[.int .i64 2, .string ⟨#[]⟩, .string ⟨#[]⟩, .int .i64 0] 52))
  have HR := Aside0.mk (HR2.out.below (below_alloc (Below.refl _ _) (.cells #[.int .i64 2, .string ⟨#[]⟩, .string ⟨#[]⟩, .int .i64 0] 52)))
  have HKP := Aside0.mk (HK2.out.then_below (below_alloc (Below.refl _ _) (.cells #[.int .i64 2, .string ⟨#[]⟩, .string ⟨#[]⟩, .int .i64 0] 52)))
  have HZ := Aside0.mk (blk_below HZ2.out (below_alloc (Below.refl _ _) (.cells #[.int .i64 2, .string ⟨#[]⟩, .string ⟨#[]⟩, .int .i64 0] 52)))
  have HGT := Aside0.mk (show N < w2.heap.size ∧ g < w2.heap.size from ⟨blk_lt HZ2.out, HR2.out.lt⟩)
  clear HR2 HK2 HZ2
  generalize w2.alloc (.cells #[.int .i64 2, .string ⟨#[]⟩, .string ⟨#[]⟩, .int .i64 0] 52) = w3 at HT HR HKP HZ ⊢
  generalize w2.heap.size = T at HT HGT ⊢
  have k0 := (blk_cell HT.out 0).trans rfl
  go_wp2_with fail
  clear k0
  refine (rshort_calls HR.out HY.out).mono ?_
  rintro en w4 ⟨rfl, hr, hk⟩
  have HY2 := Aside0.mk (show Byte (rdB 1 b1 e1) from by unfold rdB; exact (HY.out.rawB _ _).rawB _ _)
  have HR1 := Aside0.mk hr
  have HK1 := Aside0.mk (HKP.out.trans hk)
  have HT1 := Aside0.mk (hk.blk HT.out (by have := HGT.out; have := HGN.out; omega))
  have HZ1 := Aside0.mk (hk.blk HZ.out (by have := HGN.out; omega))
  clear hr hk HR HKP HT HZ
  have HR := HR1
  have HKP := HK1
  have HT := HT1
  have HZ := HZ1
  clear HR1 HK1 HT1 HZ1
  generalize rdS 1 b1 e1 = s1 at HRD ⊢
  generalize rdB 1 b1 e1 = b2 at HRD HY2 HR
  generalize rdE 1 b1 e1 = e2 at HRD HR
  clear HY
  have HY := HY2
  clear HY2
  have r1 := (blk_cell HT.out 1).trans rfl
  have f1 := blk_frozen HT.out 1
  go_upto_region 14 with fail
  clear r1 f1
  have HR1 := Aside0.mk (Rd.high HR.out (below_setB (p := ⟨T, 1, none⟩) (Below.refl T _) (Nat.le_refl _) (.string s1)) HGT.out.2)
  have HT1 := Aside0.mk (blk_put (cs' := #[.int .i64 2, .string s1, .string ⟨#[]⟩, .int .i64 0]) HT.out 1 (.string s1) rfl)
  have HZ1 := Aside0.mk (((below_setB (p := ⟨T, 1, none⟩) (Below.refl T _) (Nat.le_refl _) (.string s1)).block N HGT.out.1).trans HZ.out)
  have HK1 := Aside0.mk (HKP.out.set (p := ⟨T, 1, none⟩) (Or.inr (by have := HNE.out; have := HGT.out; show w.heap.size ≤ T; omega)) (.string s1))
  clear HR HT HZ HKP
  have HR := HR1
  have HKP := HK1
  have HT := HT1
  have HZ := HZ1
  clear HR1 HK1 HT1 HZ1
  generalize w4.setCell ⟨T, 1, none⟩ (.string s1) = wf at HR HT HZ HKP ⊢
  have HM := Aside0.mk (show decide ((0 : Int) ≤ 2147483647) = true by decide)
  refine Reg.region_store 9 0 0 [7, 8] (fun v1 v2 w w' => w' = (((w.setCell ⟨N, 0, none⟩ (.int .i64 2)).setCell ⟨N, 1, none⟩ (.string s1)).setCell ⟨N, 2, none⟩ (.string ⟨#[]⟩)).setCell ⟨N, 3, none⟩ (.int .i64 0)) [Reg.Is (.agg #[.int .i64 2, .string s1, .string ⟨#[]⟩, .int .i64 0]), Reg.Is (.pointer (some ⟨T, 3, none⟩)), Reg.Is (.int .i64 0), Reg.Is (.bool true), Reg.Is (.bool true), Reg.Is (.pointer (some ⟨g, 0, none⟩)), Reg.Is (.int .i64 e2), Reg.Is (.bool (e2 == 0)), Reg.Is (.bool (e2 == 0))]
      [some 42, some 43, some 44, some 45, some 46, some 47, some 48, some 49, some 50] (by kernel_rfl) (by rfl) (by rfl) (by rfl) (by rfl) rfl (by kernel_rfl) (by kernel_rfl) (by kernel_rfl) ⟨Reg.mono_is _, Reg.mono_is _, Reg.mono_is _, Reg.mono_is _, Reg.mono_is _, Reg.mono_is _, Reg.mono_is _, Reg.mono_is _, Reg.mono_is _, trivial⟩ (Reg.noneOkN_of (by rfl)) ⟨?_, ?_, ?_, ?_, ?_, ?_, ?_, ?_, ?_, trivial⟩ ?_ ?_ ?_
  · intro a w hl   -- 0: slot 42
    have q4 : a.eval (.tmp 4) = .pointer (some ⟨T, 0, none⟩) := hl.out 4 rfl
    have qc : ∀ x, a.eval (.const x) = x := fun _ => rfl
    refine Reg.does_is (x := .agg #[.int .i64 2, .string s1, .string ⟨#[]⟩, .int .i64 0]) rfl rfl ?_
    have ht := blk_below HT.out hl.below
    have k0 := (blk_cell ht 0).trans rfl
    have k1 := (blk_cell ht 1).trans rfl
    have k2 := (blk_cell ht 2).trans rfl
    have k3 := (blk_cell ht 3).trans rfl
    clear hl ht
    generalize a.eval = ρ at *
    go_simp
  · intro a w hl   -- 1: slot 43
    have q4 : a.eval (.tmp 4) = .pointer (some ⟨T, 0, none⟩) := hl.out 4 rfl
    have qc : ∀ x, a.eval (.const x) = x := fun _ => rfl
    refine Reg.does_is (x := .pointer (some ⟨T, 3, none⟩)) rfl rfl ?_
    clear hl
    generalize a.eval = ρ at *
    go_simp
  · intro a w hl   -- 2: slot 44
    have q43 : a.eval (.tmp 43) = .pointer (some ⟨T, 3, none⟩) := hl.has 1 rfl
    have qc : ∀ x, a.eval (.const x) = x := fun _ => rfl
    refine Reg.does_is (x := .int .i64 0) rfl rfl ?_
    have ht := blk_below HT.out hl.below
    have k0 := (blk_cell ht 0).trans rfl
    have k1 := (blk_cell ht 1).trans rfl
    have k2 := (blk_cell ht 2).trans rfl
    have k3 := (blk_cell ht 3).trans rfl
    clear hl ht
    generalize a.eval = ρ at *
    go_simp
  · intro a w hl   -- 3: slot 45
    have q44 : a.eval (.tmp 44) = .int .i64 0 := hl.has 2 rfl
    have qc : ∀ x, a.eval (.const x) = x := fun _ => rfl
    refine Reg.does_is (x := .bool true) rfl rfl ?_
    have hm : decide ((0 : Int) ≤ 2147483647) = true := HM.out
    clear hl
    generalize a.eval = ρ at *
    go_simp
  · intro a w hl   -- 4: slot 46
    have q45 : a.eval (.tmp 45) = .bool true := hl.has 3 rfl
    have qc : ∀ x, a.eval (.const x) = x := fun _ => rfl
    refine Reg.does_is (x := .bool true) rfl rfl ?_
    clear hl
    generalize a.eval = ρ at *
    go_simp
  · intro a w hl   -- 5: slot 47
    have q0 : a.eval (.tmp 0) = .pointer (some ⟨g, 0, none⟩) := hl.out 0 rfl
    have q46 : a.eval (.tmp 46) = .bool true := hl.has 4 rfl
    have qc : ∀ x, a.eval (.const x) = x := fun _ => rfl
    refine Reg.does_is (x := .pointer (some ⟨g, 0, none⟩)) rfl (Reg.wanted_of rfl rfl (hl.yields 4 rfl rfl q46)) ?_
    clear hl
    generalize a.eval = ρ at *
    go_simp
  · intro a w hl   -- 6: slot 48
    have q47 : a.eval (.tmp 47) = .pointer (some ⟨g, 0, none⟩) := hl.has 5 rfl
    have q46 : a.eval (.tmp 46) = .bool true := hl.has 4 rfl
    have qc : ∀ x, a.eval (.const x) = x := fun _ => rfl
    refine Reg.does_call_is (x := .int .i64 e2) #[.pointer (some ⟨g, 0, none⟩)] rfl (Reg.wanted_of rfl rfl (hl.yields 4 rfl rfl q46)) Try.func29 (by kernel_rfl) rfl rfl (by simp [qc, q47]) ?_
    refine (err_calls (HR.out.below hl.below)).mono ?_
    rintro en w5 ⟨rfl, rfl⟩
    exact ⟨rfl, Below.refl _ _⟩
  · intro a w hl   -- 7: slot 49
    have q48 : a.eval (.tmp 48) = .int .i64 e2 := hl.has 6 rfl
    have q46 : a.eval (.tmp 46) = .bool true := hl.has 4 rfl
    have qc : ∀ x, a.eval (.const x) = x := fun _ => rfl
    refine Reg.does_is (x := .bool (e2 == 0)) rfl (Reg.wanted_of rfl rfl (hl.yields 4 rfl rfl q46)) ?_
    clear hl
    generalize a.eval = ρ at *
    go_simp
  · intro a w hl   -- 8: slot 50
    have q46 : a.eval (.tmp 46) = .bool true := hl.has 4 rfl
    have q49 : a.eval (.tmp 49) = .bool (e2 == 0) := hl.has 7 rfl
    have qc : ∀ x, a.eval (.const x) = x := fun _ => rfl
    refine Reg.does_is (x := .bool (e2 == 0)) rfl rfl ?_
    clear hl
    generalize a.eval = ρ at *
    go_simp
  · intro i hi   -- the free ones
    simp only [List.mem_cons, List.not_mem_nil, or_false] at hi
    rcases hi with rfl | rfl
    · intro o ho a w hl
      cases ho
      have q48 : a.eval (.tmp 48) = .int .i64 e2 := hl.has 6 rfl
      have q46 : a.eval (.tmp 46) = .bool true := hl.has 4 rfl
      have qc : ∀ x, a.eval (.const x) = x := fun _ => rfl
      refine ⟨Reg.wanted_of rfl rfl (hl.yields 4 rfl rfl q46), .bool (e2 == 0), rfl, fun w2 => ?_⟩
      clear hl
      generalize a.eval = ρ at *
      go_simp
    · intro o ho a w hl
      cases ho
      have q46 : a.eval (.tmp 46) = .bool true := hl.has 4 rfl
      have q49 : a.eval (.tmp 49) = .bool (e2 == 0) := hl.has 7 rfl
      have qc : ∀ x, a.eval (.const x) = x := fun _ => rfl
      refine ⟨rfl, .bool (e2 == 0), rfl, fun w2 => ?_⟩
      clear hl
      generalize a.eval = ρ at *
      go_simp
  · intro a w hl   -- the store
    have q2 : a.eval (.tmp 2) = .pointer (some ⟨N, 0, none⟩) := hl.out 2 rfl
    have q42 : a.eval (.tmp 42) = .agg #[.int .i64 2, .string s1, .string ⟨#[]⟩, .int .i64 0] := hl.has 0 rfl
    refine ⟨rfl, rfl, _, ?_, rfl⟩
    have hz := blk_below HZ.out hl.below
    have z0 := (blk_cell hz 0).trans rfl
    have z1 := (blk_cell hz 1).trans rfl
    have z2 := (blk_cell hz 2).trans rfl
    have z3 := (blk_cell hz 3).trans rfl
    have y0 := blk_frozen hz 0
    have y1 := blk_frozen hz 1
    have y2 := blk_frozen hz 2
    have y3 := blk_frozen hz 3
    clear hl hz
    generalize a.eval = ρ at *
    go_simp
  · rintro v w w5 hb ⟨e42, e43, e44, e45, e46, e47, e48, e49, e50, _⟩ hW
    replace e42 : v 0 = .agg #[.int .i64 2, .string s1, .string ⟨#[]⟩, .int .i64 0] := e42
    replace e43 : v 1 = .pointer (some ⟨T, 3, none⟩) := e43
    replace e44 : v 2 = .int .i64 0 := e44
    replace e45 : v 3 = .bool true := e45
    replace e46 : v 4 = .bool true := e46
    replace e47 : v 5 = .pointer (some ⟨g, 0, none⟩) := e47
    replace e48 : v 6 = .int .i64 e2 := e48
    replace e49 : v 7 = .bool (e2 == 0) := e49
    replace e50 : v 8 = .bool (e2 == 0) := e50
    simp only [Reg.putL, Act.put, List.setIfInBounds_toArray, List.set_cons_zero, List.set_cons_succ, e42, e43, e44, e45, e46, e47, e48, e49, e50]
    clear e42 e43 e44 e45 e46 e47 e48 e49 e50
    have hfin := four_put (blk_below HZ.out hb) (.int .i64 2) (.string s1) (.string ⟨#[]⟩) (.int .i64 0)
    rw [← hW] at hfin
    have HRE := Aside0.mk (Rd.high (HR.out.below hb) hfin.2 HGN.out)
    have HKE := Aside0.mk ((HKP.out.then_below hb).then_ (keeps_high hfin.2) (fun i h => Or.inr (by rw [HNE.out]; exact h)))
    clear hW
    generalize hxx : w5 = wy at hfin HRE HKE ⊢
    clear hxx hb
    go_wp2_with fail
    refine bodyPost_ret (results_ct rfl _ _ N 52 #[.int .i64 2, .string s1, .string ⟨#[]⟩, .int .i64 0] (0, 0) _ rfl hfin.1 Try.underlying52 rfl (by kernel_rfl)) rfl ?_
    unfold OPost
    rw [HRD.out]
    exact ⟨rfl, HRE.out, HKE.out⟩

set_option maxHeartbeats 8000000 in
set_option maxRecDepth 100000 in
theorem rop_get {w : World} {g : Nat} {bs : List Int} {e : Int} (h : Rd w g bs e) (hby : Byte bs) {K : Int} (hK : num (rawO bs e ((1 : Nat) : Int)) = K) (hk1 : K = 3) :
    Calls Try.prog 38 #[.pointer (some ⟨g, 0, none⟩)] w (OPost w g (rdOp bs e)) := by
  have HZ := Aside0.mk (blk_new w (.cells #[.int .i64 0, .string ⟨#[]⟩, .string ⟨#[]⟩, .int .i64 0] 52))
  have HB := Aside0.mk (below_alloc (Below.refl w.heap.size w) (.cells #[.int .i64 0, .string ⟨#[]⟩, .string ⟨#[]⟩, .int .i64 0] 52))
  have HN := Aside0.mk (num_wide (h.below HB.out) hby (n := ((1 : Nat) : Int)) (by decide))
  have HGN := Aside0.mk h.lt
  have HY := Aside0.mk (show Byte (rawB bs e ((1 : Nat) : Int)) from hby.rawB _ _)
  have hEb := num4_bd (hby.rawO e ((1 : Nat) : Int)) (by have := rawO_le bs e 1; omega)
  rw [hK] at hEb HN
  have HRD := Aside0.mk (show rdOp bs e = rdK K (rawB bs e ((1 : Nat) : Int)) (rawE bs e ((1 : Nat) : Int)) by unfold rdOp; rw [hK])
  clear h hby hK
  generalize rawB bs e ((1 : Nat) : Int) = b1 at HN HY HRD
  generalize rawE bs e ((1 : Nat) : Int) = e1 at HN HRD
  go_enter Try.func38, Try.ntmps38
  go_upto_region 1 with fail
  obtain ⟨N, hN⟩ : ∃ N, w.heap.size = N := ⟨_, rfl⟩
  have HNE := Aside0.mk hN
  rw [hN] at HZ HGN
  try rw [hN]
  clear hN
  generalize w.alloc (.cells #[.int .i64 0, .string ⟨#[]⟩, .string ⟨#[]⟩, .int .i64 0] 52) = w1 at HZ HB HN ⊢
  go_wp2_with fail
  refine HN.out.mono ?_
  rintro en w2 ⟨rfl, hr, hk⟩
  have HR2 := Aside0.mk hr
  have HK2 := Aside0.mk ((Keeps.of_below HB.out (fun k => k = g)).then_ hk (fun i h => Or.inl h))
  have HZ2 := Aside0.mk (hk.blk HZ.out (by have := HGN.out; omega))
  clear hr hk HN HZ HB
  subst hk1
  unfold rdK at HRD
  rw [if_neg (by decide), if_pos (Or.inr rfl)] at HRD
  go_upto_region 2 with fail
  have HT := Aside0.mk (blk_new w2 (.cells #[.int .i64 3, .string ⟨#[]⟩, .string ⟨#[]⟩, .int .i64 0] 52))
  have HR := Aside0.mk (HR2.out.below (below_alloc (Below.refl _ _) (.cells #[.int .i64 3, .string ⟨#[]⟩, .string ⟨#[]⟩, .int .i64 0] 52)))
  have HKP := Aside0.mk (HK2.out.then_below (below_alloc (Below.refl _ _) (.cells #[.int .i64 3, .string ⟨#[]⟩, .string ⟨#[]⟩, .int .i64 0] 52)))
  have HZ := Aside0.mk (blk_below HZ2.out (below_alloc (Below.refl _ _) (.cells #[.int .i64 3, .string ⟨#[]⟩, .string ⟨#[]⟩, .int .i64 0] 52)))
  have HGT := Aside0.mk (show N < w2.heap.size ∧ g < w2.heap.size from ⟨blk_lt HZ2.out, HR2.out.lt⟩)
  clear HR2 HK2 HZ2
  generalize w2.alloc (.cells #[.int .i64 3, .string ⟨#[]⟩, .string ⟨#[]⟩, .int .i64 0] 52) = w3 at HT HR HKP HZ ⊢
  generalize w2.heap.size = T at HT HGT ⊢
  have k0 := (blk_cell HT.out 0).trans rfl
  go_wp2_with fail
  clear k0
  refine (rshort_calls HR.out HY.out).mono ?_
  rintro en w4 ⟨rfl, hr, hk⟩
  have HY2 := Aside0.mk (show Byte (rdB 1 b1 e1) from by unfold rdB; exact (HY.out.rawB _ _).rawB _ _)
  have HR1 := Aside0.mk hr
  have HK1 := Aside0.mk (HKP.out.trans hk)
  have HT1 := Aside0.mk (hk.blk HT.out (by have := HGT.out; have := HGN.out; omega))
  have HZ1 := Aside0.mk (hk.blk HZ.out (by have := HGN.out; omega))
  clear hr hk HR HKP HT HZ
  have HR := HR1
  have HKP := HK1
  have HT := HT1
  have HZ := HZ1
  clear HR1 HK1 HT1 HZ1
  generalize rdS 1 b1 e1 = s1 at HRD ⊢
  generalize rdB 1 b1 e1 = b2 at HRD HY2 HR
  generalize rdE 1 b1 e1 = e2 at HRD HR
  clear HY
  have HY := HY2
  clear HY2
  have r1 := (blk_cell HT.out 1).trans rfl
  have f1 := blk_frozen HT.out 1
  go_upto_region 14 with fail
  clear r1 f1
  have HR1 := Aside0.mk (Rd.high HR.out (below_setB (p := ⟨T, 1, none⟩) (Below.refl T _) (Nat.le_refl _) (.string s1)) HGT.out.2)
  have HT1 := Aside0.mk (blk_put (cs' := #[.int .i64 3, .string s1, .string ⟨#[]⟩, .int .i64 0]) HT.out 1 (.string s1) rfl)
  have HZ1 := Aside0.mk (((below_setB (p := ⟨T, 1, none⟩) (Below.refl T _) (Nat.le_refl _) (.string s1)).block N HGT.out.1).trans HZ.out)
  have HK1 := Aside0.mk (HKP.out.set (p := ⟨T, 1, none⟩) (Or.inr (by have := HNE.out; have := HGT.out; show w.heap.size ≤ T; omega)) (.string s1))
  clear HR HT HZ HKP
  have HR := HR1
  have HKP := HK1
  have HT := HT1
  have HZ := HZ1
  clear HR1 HK1 HT1 HZ1
  generalize w4.setCell ⟨T, 1, none⟩ (.string s1) = wf at HR HT HZ HKP ⊢
  have HM := Aside0.mk (show decide ((0 : Int) ≤ 2147483647) = true by decide)
  refine Reg.region_store 9 0 0 [7, 8] (fun v1 v2 w w' => w' = (((w.setCell ⟨N, 0, none⟩ (.int .i64 3)).setCell ⟨N, 1, none⟩ (.string s1)).setCell ⟨N, 2, none⟩ (.string ⟨#[]⟩)).setCell ⟨N, 3, none⟩ (.int .i64 0)) [Reg.Is (.agg #[.int .i64 3, .string s1, .string ⟨#[]⟩, .int .i64 0]), Reg.Is (.pointer (some ⟨T, 3, none⟩)), Reg.Is (.int .i64 0), Reg.Is (.bool true), Reg.Is (.bool true), Reg.Is (.pointer (some ⟨g, 0, none⟩)), Reg.Is (.int .i64 e2), Reg.Is (.bool (e2 == 0)), Reg.Is (.bool (e2 == 0))]
      [some 42, some 43, some 44, some 45, some 46, some 47, some 48, some 49, some 50] (by kernel_rfl) (by rfl) (by rfl) (by rfl) (by rfl) rfl (by kernel_rfl) (by kernel_rfl) (by kernel_rfl) ⟨Reg.mono_is _, Reg.mono_is _, Reg.mono_is _, Reg.mono_is _, Reg.mono_is _, Reg.mono_is _, Reg.mono_is _, Reg.mono_is _, Reg.mono_is _, trivial⟩ (Reg.noneOkN_of (by rfl)) ⟨?_, ?_, ?_, ?_, ?_, ?_, ?_, ?_, ?_, trivial⟩ ?_ ?_ ?_
  · intro a w hl   -- 0: slot 42
    have q4 : a.eval (.tmp 4) = .pointer (some ⟨T, 0, none⟩) := hl.out 4 rfl
    have qc : ∀ x, a.eval (.const x) = x := fun _ => rfl
    refine Reg.does_is (x := .agg #[.int .i64 3, .string s1, .string ⟨#[]⟩, .int .i64 0]) rfl rfl ?_
    have ht := blk_below HT.out hl.below
    have k0 := (blk_cell ht 0).trans rfl
    have k1 := (blk_cell ht 1).trans rfl
    have k2 := (blk_cell ht 2).trans rfl
    have k3 := (blk_cell ht 3).trans rfl
    clear hl ht
    generalize a.eval = ρ at *
    go_simp
  · intro a w hl   -- 1: slot 43
    have q4 : a.eval (.tmp 4) = .pointer (some ⟨T, 0, none⟩) := hl.out 4 rfl
    have qc : ∀ x, a.eval (.const x) = x := fun _ => rfl
    refine Reg.does_is (x := .pointer (some ⟨T, 3, none⟩)) rfl rfl ?_
    clear hl
    generalize a.eval = ρ at *
    go_simp
  · intro a w hl   -- 2: slot 44
    have q43 : a.eval (.tmp 43) = .pointer (some ⟨T, 3, none⟩) := hl.has 1 rfl
    have qc : ∀ x, a.eval (.const x) = x := fun _ => rfl
    refine Reg.does_is (x := .int .i64 0) rfl rfl ?_
    have ht := blk_below HT.out hl.below
    have k0 := (blk_cell ht 0).trans rfl
    have k1 := (blk_cell ht 1).trans rfl
    have k2 := (blk_cell ht 2).trans rfl
    have k3 := (blk_cell ht 3).trans rfl
    clear hl ht
    generalize a.eval = ρ at *
    go_simp
  · intro a w hl   -- 3: slot 45
    have q44 : a.eval (.tmp 44) = .int .i64 0 := hl.has 2 rfl
    have qc : ∀ x, a.eval (.const x) = x := fun _ => rfl
    refine Reg.does_is (x := .bool true) rfl rfl ?_
    have hm : decide ((0 : Int) ≤ 2147483647) = true := HM.out
    clear hl
    generalize a.eval = ρ at *
    go_simp
  · intro a w hl   -- 4: slot 46
    have q45 : a.eval (.tmp 45) = .bool true := hl.has 3 rfl
    have qc : ∀ x, a.eval (.const x) = x := fun _ => rfl
    refine Reg.does_is (x := .bool true) rfl rfl ?_
    clear hl
    generalize a.eval = ρ at *
    go_simp
  · intro a w hl   -- 5: slot 47
    have q0 : a.eval (.tmp 0) = .pointer (some ⟨g, 0, none⟩) := hl.out 0 rfl
    have q46 : a.eval (.tmp 46) = .bool true := hl.has 4 rfl
    have qc : ∀ x, a.eval (.const x) = x := fun _ => rfl
    refine Reg.does_is (x := .pointer (some ⟨g, 0, none⟩)) rfl (Reg.wanted_of rfl rfl (hl.yields 4 rfl rfl q46)) ?_
    clear hl
    generalize a.eval = ρ at *
    go_simp
  · intro a w hl   -- 6: slot 48
    have q47 : a.eval (.tmp 47) = .pointer (some ⟨g, 0, none⟩) := hl.has 5 rfl
    have q46 : a.eval (.tmp 46) = .bool true := hl.has 4 rfl
    have qc : ∀ x, a.eval (.const x) = x := fun _ => rfl
    refine Reg.does_call_is (x := .int .i64 e2) #[.pointer (some ⟨g, 0, none⟩)] rfl (Reg.wanted_of rfl rfl (hl.yields 4 rfl rfl q46)) Try.func29 (by kernel_rfl) rfl rfl (by simp [qc, q47]) ?_
    refine (err_calls (HR.out.below hl.below)).mono ?_
    rintro en w5 ⟨rfl, rfl⟩
    exact ⟨rfl, Below.refl _ _⟩
  · intro a w hl   -- 7: slot 49
    have q48 : a.eval (.tmp 48) = .int .i64 e2 := hl.has 6 rfl
    have q46 : a.eval (.tmp 46) = .bool true := hl.has 4 rfl
    have qc : ∀ x, a.eval (.const x) = x := fun _ => rfl
    refine Reg.does_is (x := .bool (e2 == 0)) rfl (Reg.wanted_of rfl rfl (hl.yields 4 rfl rfl q46)) ?_
    clear hl
    generalize a.eval = ρ at *
    go_simp
  · intro a w hl   -- 8: slot 50
    have q46 : a.eval (.tmp 46) = .bool true := hl.has 4 rfl
    have q49 : a.eval (.tmp 49) = .bool (e2 == 0) := hl.has 7 rfl
    have qc : ∀ x, a.eval (.const x) = x := fun _ => rfl
    refine Reg.does_is (x := .bool (e2 == 0)) rfl rfl ?_
    clear hl
    generalize a.eval = ρ at *
    go_simp
  · intro i hi   -- the free ones
    simp only [List.mem_cons, List.not_mem_nil, or_false] at hi
    rcases hi with rfl | rfl
    · intro o ho a w hl
      cases ho
      have q48 : a.eval (.tmp 48) = .int .i64 e2 := hl.has 6 rfl
      have q46 : a.eval (.tmp 46) = .bool true := hl.has 4 rfl
      have qc : ∀ x, a.eval (.const x) = x := fun _ => rfl
      refine ⟨Reg.wanted_of rfl rfl (hl.yields 4 rfl rfl q46), .bool (e2 == 0), rfl, fun w2 => ?_⟩
      clear hl
      generalize a.eval = ρ at *
      go_simp
    · intro o ho a w hl
      cases ho
      have q46 : a.eval (.tmp 46) = .bool true := hl.has 4 rfl
      have q49 : a.eval (.tmp 49) = .bool (e2 == 0) := hl.has 7 rfl
      have qc : ∀ x, a.eval (.const x) = x := fun _ => rfl
      refine ⟨rfl, .bool (e2 == 0), rfl, fun w2 => ?_⟩
      clear hl
      generalize a.eval = ρ at *
      go_simp
  · intro a w hl   -- the store
    have q2 : a.eval (.tmp 2) = .pointer (some ⟨N, 0, none⟩) := hl.out 2 rfl
    have q42 : a.eval (.tmp 42) = .agg #[.int .i64 3, .string s1, .string ⟨#[]⟩, .int .i64 0] := hl.has 0 rfl
    refine ⟨rfl, rfl, _, ?_, rfl⟩
    have hz := blk_below HZ.out hl.below
    have z0 := (blk_cell hz 0).trans rfl
    have z1 := (blk_cell hz 1).trans rfl
    have z2 := (blk_cell hz 2).trans rfl
    have z3 := (blk_cell hz 3).trans rfl
    have y0 := blk_frozen hz 0
    have y1 := blk_frozen hz 1
    have y2 := blk_frozen hz 2
    have y3 := blk_frozen hz 3
    clear hl hz
    generalize a.eval = ρ at *
    go_simp
  · rintro v w w5 hb ⟨e42, e43, e44, e45, e46, e47, e48, e49, e50, _⟩ hW
    replace e42 : v 0 = .agg #[.int .i64 3, .string s1, .string ⟨#[]⟩, .int .i64 0] := e42
    replace e43 : v 1 = .pointer (some ⟨T, 3, none⟩) := e43
    replace e44 : v 2 = .int .i64 0 := e44
    replace e45 : v 3 = .bool true := e45
    replace e46 : v 4 = .bool true := e46
    replace e47 : v 5 = .pointer (some ⟨g, 0, none⟩) := e47
    replace e48 : v 6 = .int .i64 e2 := e48
    replace e49 : v 7 = .bool (e2 == 0) := e49
    replace e50 : v 8 = .bool (e2 == 0) := e50
    simp only [Reg.putL, Act.put, List.setIfInBounds_toArray, List.set_cons_zero, List.set_cons_succ, e42, e43, e44, e45, e46, e47, e48, e49, e50]
    clear e42 e43 e44 e45 e46 e47 e48 e49 e50
    have hfin := four_put (blk_below HZ.out hb) (.int .i64 3) (.string s1) (.string ⟨#[]⟩) (.int .i64 0)
    rw [← hW] at hfin
    have HRE := Aside0.mk (Rd.high (HR.out.below hb) hfin.2 HGN.out)
    have HKE := Aside0.mk ((HKP.out.then_below hb).then_ (keeps_high hfin.2) (fun i h => Or.inr (by rw [HNE.out]; exact h)))
    clear hW
    generalize hxx : w5 = wy at hfin HRE HKE ⊢
    clear hxx hb
    go_wp2_with fail
    refine bodyPost_ret (results_ct rfl _ _ N 52 #[.int .i64 3, .string s1, .string ⟨#[]⟩, .int .i64 0] (0, 0) _ rfl hfin.1 Try.underlying52 rfl (by kernel_rfl)) rfl ?_
    unfold OPost
    rw [HRD.out]
    exact ⟨rfl, HRE.out, HKE.out⟩

set_option maxHeartbeats 8000000 in
set_option maxRecDepth 100000 in
theorem rop_sync {w : World} {g : Nat} {bs : List Int} {e : Int} (h : Rd w g bs e) (hby : Byte bs) {K : Int} (hK : num (rawO bs e ((1 : Nat) : Int)) = K) (hk1 : K = 5) :
    Calls Try.prog 38 #[.pointer (some ⟨g, 0, none⟩)] w (OPost w g (rdOp bs e)) := by
  have HZ := Aside0.mk (blk_new w (.cells #[.int .i64 0, .string ⟨#[]⟩, .string ⟨#[]⟩, .int .i64 0] 52))
  have HB := Aside0.mk (below_alloc (Below.refl w.heap.size w) (.cells #[.int .i64 0, .string ⟨#[]⟩, .string ⟨#[]⟩, .int .i64 0] 52))
  have HN := Aside0.mk (num_wide (h.below HB.out) hby (n := ((1 : Nat) : Int)) (by decide))
  have HGN := Aside0.mk h.lt
  have HY := Aside0.mk (show Byte (rawB bs e ((1 : Nat) : Int)) from hby.rawB _ _)
  have hEb := num4_bd (hby.rawO e ((1 : Nat) : Int)) (by have := rawO_le bs e 1; omega)
  rw [hK] at hEb HN
  have HRD := Aside0.mk (show rdOp bs e = rdK K (rawB bs e ((1 : Nat) : Int)) (rawE bs e ((1 : Nat) : Int)) by unfold rdOp; rw [hK])
  clear h hby hK
  generalize rawB bs e ((1 : Nat) : Int) = b1 at HN HY HRD
  generalize rawE bs e ((1 : Nat) : Int) = e1 at HN HRD
  go_enter Try.func38, Try.ntmps38
  go_upto_region 1 with fail
  obtain ⟨N, hN⟩ : ∃ N, w.heap.size = N := ⟨_, rfl⟩
  have HNE := Aside0.mk hN
  rw [hN] at HZ HGN
  try rw [hN]
  clear hN
  generalize w.alloc (.cells #[.int .i64 0, .string ⟨#[]⟩, .string ⟨#[]⟩, .int .i64 0] 52) = w1 at HZ HB HN ⊢
  go_wp2_with fail
  refine HN.out.mono ?_
  rintro en w2 ⟨rfl, hr, hk⟩
  have HR2 := Aside0.mk hr
  have HK2 := Aside0.mk ((Keeps.of_below HB.out (fun k => k = g)).then_ hk (fun i h => Or.inl h))
  have HZ2 := Aside0.mk (hk.blk HZ.out (by have := HGN.out; omega))
  clear hr hk HN HZ HB
  subst hk1
  go_upto_region 2 with fail
  have HT := Aside0.mk (blk_new w2 (.cells #[.int .i64 5, .string ⟨#[]⟩, .string ⟨#[]⟩, .int .i64 0] 52))
  have HR := Aside0.mk (HR2.out.below (below_alloc (Below.refl _ _) (.cells #[.int .i64 5, .string ⟨#[]⟩, .string ⟨#[]⟩, .int .i64 0] 52)))
  have HKP := Aside0.mk (HK2.out.then_below (below_alloc (Below.refl _ _) (.cells #[.int .i64 5, .string ⟨#[]⟩, .string ⟨#[]⟩, .int .i64 0] 52)))
  have HZ := Aside0.mk (blk_below HZ2.out (below_alloc (Below.refl _ _) (.cells #[.int .i64 5, .string ⟨#[]⟩, .string ⟨#[]⟩, .int .i64 0] 52)))
  have HGT := Aside0.mk (show N < w2.heap.size ∧ g < w2.heap.size from ⟨blk_lt HZ2.out, HR2.out.lt⟩)
  clear HR2 HK2 HZ2
  generalize w2.alloc (.cells #[.int .i64 5, .string ⟨#[]⟩, .string ⟨#[]⟩, .int .i64 0] 52) = w3 at HT HR HKP HZ ⊢
  generalize w2.heap.size = T at HT HGT ⊢
  have k0 := (blk_cell HT.out 0).trans rfl
  go_upto_region 14 with fail
  clear k0
  have HM := Aside0.mk (show decide ((0 : Int) ≤ 2147483647) = true by decide)
  refine Reg.region_store 9 0 0 [7, 8] (fun v1 v2 w w' => w' = (((w.setCell ⟨N, 0, none⟩ (.int .i64 5)).setCell ⟨N, 1, none⟩ (.string ⟨#[]⟩)).setCell ⟨N, 2, none⟩ (.string ⟨#[]⟩)).setCell ⟨N, 3, none⟩ (.int .i64 0)) [Reg.Is (.agg #[.int .i64 5, .string ⟨#[]⟩, .string ⟨#[]⟩, .int .i64 0]), Reg.Is (.pointer (some ⟨T, 3, none⟩)), Reg.Is (.int .i64 0), Reg.Is (.bool true), Reg.Is (.bool true), Reg.Is (.pointer (some ⟨g, 0, none⟩)), Reg.Is (.int .i64 e1), Reg.Is (.bool (e1 == 0)), Reg.Is (.bool (e1 == 0))]
      [some 42, some 43, some 44, some 45, some 46, some 47, some 48, some 49, some 50] (by kernel_rfl) (by rfl) (by rfl) (by rfl) (by rfl) rfl (by kernel_rfl) (by kernel_rfl) (by kernel_rfl) ⟨Reg.mono_is _, Reg.mono_is _, Reg.mono_is _, Reg.mono_is _, Reg.mono_is _, Reg.mono_is _, Reg.mono_is _, Reg.mono_is _, Reg.mono_is _, trivial⟩ (Reg.noneOkN_of (by rfl)) ⟨?_, ?_, ?_, ?_, ?_, ?_, ?_, ?_, ?_, trivial⟩ ?_ ?_ ?_
  · intro a w hl   -- 0: slot 42
    have q4 : a.eval (.tmp 4) = .pointer (some ⟨T, 0, none⟩) := hl.out 4 rfl
    have qc : ∀ x, a.eval (.const x) = x := fun _ => rfl
    refine Reg.does_is (x := .agg #[.int .i64 5, .string ⟨#[]⟩, .string ⟨#[]⟩, .int .i64 0]) rfl rfl ?_
    have ht := blk_below HT.out hl.below
    have k0 := (blk_cell ht 0).trans rfl
    have k1 := (blk_cell ht 1).trans rfl
    have k2 := (blk_cell ht 2).trans rfl
    have k3 := (blk_cell ht 3).trans rfl
    clear hl ht
    generalize a.eval = ρ at *
    go_simp
  · intro a w hl   -- 1: slot 43
    have q4 : a.eval (.tmp 4) = .pointer (some ⟨T, 0, none⟩) := hl.out 4 rfl
    have qc : ∀ x, a.eval (.const x) = x := fun _ => rfl
    refine Reg.does_is (x := .pointer (some ⟨T, 3, none⟩)) rfl rfl ?_
    clear hl
    generalize a.eval = ρ at *
    go_simp
  · intro a w hl   -- 2: slot 44
    have q43 : a.eval (.tmp 43) = .pointer (some ⟨T, 3, none⟩) := hl.has 1 rfl
    have qc : ∀ x, a.eval (.const x) = x := fun _ => rfl
    refine Reg.does_is (x := .int .i64 0) rfl rfl ?_
    have ht := blk_below HT.out hl.below
    have k0 := (blk_cell ht 0).trans rfl
    have k1 := (blk_cell ht 1).trans rfl
    have k2 := (blk_cell ht 2).trans rfl
    have k3 := (blk_cell ht 3).trans rfl
    clear hl ht
    generalize a.eval = ρ at *
    go_simp
  · intro a w hl   -- 3: slot 45
    have q44 : a.eval (.tmp 44) = .int .i64 0 := hl.has 2 rfl
    have qc : ∀ x, a.eval (.const x) = x := fun _ => rfl
    refine Reg.does_is (x := .bool true) rfl rfl ?_
    have hm : decide ((0 : Int) ≤ 2147483647) = true := HM.out
    clear hl
    generalize a.eval = ρ at *
    go_simp
  · intro a w hl   -- 4: slot 46
    have q45 : a.eval (.tmp 45) = .bool true := hl.has 3 rfl
    have qc : ∀ x, a.eval (.const x) = x := fun _ => rfl
    refine Reg.does_is (x := .bool true) rfl rfl ?_
    clear hl
    generalize a.eval = ρ at *
    go_simp
  · intro a w hl   -- 5: slot 47
    have q0 : a.eval (.tmp 0) = .pointer (some ⟨g, 0, none⟩) := hl.out 0 rfl
    have q46 : a.eval (.tmp 46) = .bool true := hl.has 4 rfl
    have qc : ∀ x, a.eval (.const x) = x := fun _ => rfl
    refine Reg.does_is (x := .pointer (some ⟨g, 0, none⟩)) rfl (Reg.wanted_of rfl rfl (hl.yields 4 rfl rfl q46)) ?_
    clear hl
    generalize a.eval = ρ at *
    go_simp
  · intro a w hl   -- 6: slot 48
    have q47 : a.eval (.tmp 47) = .pointer (some ⟨g, 0, none⟩) := hl.has 5 rfl
    have q46 : a.eval (.tmp 46) = .bool true := hl.has 4 rfl
    have qc : ∀ x, a.eval (.const x) = x := fun _ => rfl
    refine Reg.does_call_is (x := .int .i64 e1) #[.pointer (some ⟨g, 0, none⟩)] rfl (Reg.wanted_of rfl rfl (hl.yields 4 rfl rfl q46)) Try.func29 (by kernel_rfl) rfl rfl (by simp [qc, q47]) ?_
    refine (err_calls (HR.out.below hl.below)).mono ?_
    rintro en w5 ⟨rfl, rfl⟩
    exact ⟨rfl, Below.refl _ _⟩
  · intro a w hl   -- 7: slot 49
    have q48 : a.eval (.tmp 48) = .int .i64 e1 := hl.has 6 rfl
    have q46 : a.eval (.tmp 46) = .bool true := hl.has 4 rfl
    have qc : ∀ x, a.eval (.const x) = x := fun _ => rfl
    refine Reg.does_is (x := .bool (e1 == 0)) rfl (Reg.wanted_of rfl rfl (hl.yields 4 rfl rfl q46)) ?_
    clear hl
    generalize a.eval = ρ at *
    go_simp
  · intro a w hl   -- 8: slot 50
    have q46 : a.eval (.tmp 46) = .bool true := hl.has 4 rfl
    have q49 : a.eval (.tmp 49) = .bool (e1 == 0) := hl.has 7 rfl
    have qc : ∀ x, a.eval (.const x) = x := fun _ => rfl
    refine Reg.does_is (x := .bool (e1 == 0)) rfl rfl ?_
    clear hl
    generalize a.eval = ρ at *
    go_simp
  · intro i hi   -- the free ones
    simp only [List.mem_cons, List.not_mem_nil, or_false] at hi
    rcases hi with rfl | rfl
    · intro o ho a w hl
      cases ho
      have q48 : a.eval (.tmp 48) = .int .i64 e1 := hl.has 6 rfl
      have q46 : a.eval (.tmp 46) = .bool true := hl.has 4 rfl
      have qc : ∀ x, a.eval (.const x) = x := fun _ => rfl
      refine ⟨Reg.wanted_of rfl rfl (hl.yields 4 rfl rfl q46), .bool (e1 == 0), rfl, fun w2 => ?_⟩
      clear hl
      generalize a.eval = ρ at *
      go_simp
    · intro o ho a w hl
      cases ho
      have q46 : a.eval (.tmp 46) = .bool true := hl.has 4 rfl
      have q49 : a.eval (.tmp 49) = .bool (e1 == 0) := hl.has 7 rfl
      have qc : ∀ x, a.eval (.const x) = x := fun _ => rfl
      refine ⟨rfl, .bool (e1 == 0), rfl, fun w2 => ?_⟩
      clear hl
      generalize a.eval = ρ at *
      go_simp
  · intro a w hl   -- the store
    have q2 : a.eval (.tmp 2) = .pointer (some ⟨N, 0, none⟩) := hl.out 2 rfl
    have q42 : a.eval (.tmp 42) = .agg #[.int .i64 5, .string ⟨#[]⟩, .string ⟨#[]⟩, .int .i64 0] := hl.has 0 rfl
    refine ⟨rfl, rfl, _, ?_, rfl⟩
    have hz := blk_below HZ.out hl.below
    have z0 := (blk_cell hz 0).trans rfl
    have z1 := (blk_cell hz 1).trans rfl
    have z2 := (blk_cell hz 2).trans rfl
    have z3 := (blk_cell hz 3).trans rfl
    have y0 := blk_frozen hz 0
    have y1 := blk_frozen hz 1
    have y2 := blk_frozen hz 2
    have y3 := blk_frozen hz 3
    clear hl hz
    generalize a.eval = ρ at *
    go_simp
  · rintro v w w5 hb ⟨e42, e43, e44, e45, e46, e47, e48, e49, e50, _⟩ hW
    replace e42 : v 0 = .agg #[.int .i64 5, .string ⟨#[]⟩, .string ⟨#[]⟩, .int .i64 0] := e42
    replace e43 : v 1 = .pointer (some ⟨T, 3, none⟩) := e43
    replace e44 : v 2 = .int .i64 0 := e44
    replace e45 : v 3 = .bool true := e45
    replace e46 : v 4 = .bool true := e46
    replace e47 : v 5 = .pointer (some ⟨g, 0, none⟩) := e47
    replace e48 : v 6 = .int .i64 e1 := e48
    replace e49 : v 7 = .bool (e1 == 0) := e49
    replace e50 : v 8 = .bool (e1 == 0) := e50
    simp only [Reg.putL, Act.put, List.setIfInBounds_toArray, List.set_cons_zero, List.set_cons_succ, e42, e43, e44, e45, e46, e47, e48, e49, e50]
    clear e42 e43 e44 e45 e46 e47 e48 e49 e50
    have hfin := four_put (blk_below HZ.out hb) (.int .i64 5) (.string ⟨#[]⟩) (.string ⟨#[]⟩) (.int .i64 0)
    rw [← hW] at hfin
    have HRE := Aside0.mk (Rd.high (HR.out.below hb) hfin.2 HGN.out)
    have HKE := Aside0.mk ((HKP.out.then_below hb).then_ (keeps_high hfin.2) (fun i h => Or.inr (by rw [HNE.out]; exact h)))
    clear hW
    generalize hxx : w5 = wy at hfin HRE HKE ⊢
    clear hxx hb
    go_wp2_with fail
    refine bodyPost_ret (results_ct rfl _ _ N 52 #[.int .i64 5, .string ⟨#[]⟩, .string ⟨#[]⟩, .int .i64 0] (0, 0) _ rfl hfin.1 Try.underlying52 rfl (by kernel_rfl)) rfl ?_
    unfold OPost
    rw [HRD.out]
    exact ⟨rfl, HRE.out, HKE.out⟩

set_option maxHeartbeats 8000000 in
set_option maxRecDepth 100000 in
theorem rop_reopen {w : World} {g : Nat} {bs : List Int} {e : Int} (h : Rd w g bs e) (hby : Byte bs) {K : Int} (hK : num (rawO bs e ((1 : Nat) : Int)) = K) (hk1 : K = 6) :
    Calls Try.prog 38 #[.pointer (some ⟨g, 0, none⟩)] w (OPost w g (rdOp bs e)) := by
  have HZ := Aside0.mk (blk_new w (.cells #[.int .i64 0, .string ⟨#[]⟩, .string ⟨#[]⟩, .int .i64 0] 52))
  have HB := Aside0.mk (below_alloc (Below.refl w.heap.size w) (.cells #[.int .i64 0, .string ⟨#[]⟩, .string ⟨#[]⟩, .int .i64 0] 52))
  have HN := Aside0.mk (num_wide (h.below HB.out) hby (n := ((1 : Nat) : Int)) (by decide))
  have HGN := Aside0.mk h.lt
  have HY := Aside0.mk (show Byte (rawB bs e ((1 : Nat) : Int)) from hby.rawB _ _)
  have hEb := num4_bd (hby.rawO e ((1 : Nat) : Int)) (by have := rawO_le bs e 1; omega)
  rw [hK] at hEb HN
  have HRD := Aside0.mk (show rdOp bs e = rdK K (rawB bs e ((1 : Nat) : Int)) (rawE bs e ((1 : Nat) : Int)) by unfold rdOp; rw [hK])
  clear h hby hK
  generalize rawB bs e ((1 : Nat) : Int) = b1 at HN HY HRD
  generalize rawE bs e ((1 : Nat) : Int) = e1 at HN HRD
  go_enter Try.func38, Try.ntmps38
  go_upto_region 1 with fail
  obtain ⟨N, hN⟩ : ∃ N, w.heap.size = N := ⟨_, rfl⟩
  have HNE := Aside0.mk hN
  rw [hN] at HZ HGN
  try rw [hN]
  clear hN
  generalize w.alloc (.cells #[.int .i64 0, .string ⟨#[]⟩, .string ⟨#[]⟩, .int .i64 0] 52) = w1 at HZ HB HN ⊢
  go_wp2_with fail
  refine HN.out.mono ?_
  rintro en w2 ⟨rfl, hr, hk⟩
  have HR2 := Aside0.mk hr
  have HK2 := Aside0.mk ((Keeps.of_below HB.out (fun k => k = g)).then_ hk (fun i h => Or.inl h))
  have HZ2 := Aside0.mk (hk.blk HZ.out (by have := HGN.out; omega))
  clear hr hk HN HZ HB
  subst hk1
  go_upto_region 2 with fail
  have HT := Aside0.mk (blk_new w2 (.cells #[.int .i64 6, .string ⟨#[]⟩, .string ⟨#[]⟩, .int .i64 0] 52))
  have HR := Aside0.mk (HR2.out.below (below_alloc (Below.refl _ _) (.cells #[.int .i64 6, .string ⟨#[]⟩, .string ⟨#[]⟩, .int .i64 0] 52)))
  have HKP := Aside0.mk (HK2.out.then_below (below_alloc (Below.refl _ _) (.cells #[.int .i64 6, .string ⟨#[]⟩, .string ⟨#[]⟩, .int .i64 0] 52)))
  have HZ := Aside0.mk (blk_below HZ2.out (below_alloc (Below.refl _ _) (.cells #[.int .i64 6, .string ⟨#[]⟩, .string ⟨#[]⟩, .int .i64 0] 52)))
  have HGT := Aside0.mk (show N < w2.heap.size ∧ g < w2.heap.size from ⟨blk_lt HZ2.out, HR2.out.lt⟩)
  clear HR2 HK2 HZ2
  generalize w2.alloc (.cells #[.int .i64 6, .string ⟨#[]⟩, .string ⟨#[]⟩, .int .i64 0] 52) = w3 at HT HR HKP HZ ⊢
  generalize w2.heap.size = T at HT HGT ⊢
  have k0 := (blk_cell HT.out 0).trans rfl
  go_upto_region 14 with fail
  clear k0
  have HM := Aside0.mk (show decide ((0 : Int) ≤ 2147483647) = true by decide)
  refine Reg.region_store 9 0 0 [7, 8] (fun v1 v2 w w' => w' = (((w.setCell ⟨N, 0, none⟩ (.int .i64 6)).setCell ⟨N, 1, none⟩ (.string ⟨#[]⟩)).setCell ⟨N, 2, none⟩ (.string ⟨#[]⟩)).setCell ⟨N, 3, none⟩ (.int .i64 0)) [Reg.Is (.agg #[.int .i64 6, .string ⟨#[]⟩, .string ⟨#[]⟩, .int .i64 0]), Reg.Is (.pointer (some ⟨T, 3, none⟩)), Reg.Is (.int .i64 0), Reg.Is (.bool true), Reg.Is (.bool true), Reg.Is (.pointer (some ⟨g, 0, none⟩)), Reg.Is (.int .i64 e1), Reg.Is (.bool (e1 == 0)), Reg.Is (.bool (e1 == 0))]
      [some 42, some 43, some 44, some 45, some 46, some 47, some 48, some 49, some 50] (by kernel_rfl) (by rfl) (by rfl) (by rfl) (by rfl) rfl (by kernel_rfl) (by kernel_rfl) (by kernel_rfl) ⟨Reg.mono_is _, Reg.mono_is _, Reg.mono_is _, Reg.mono_is _, Reg.mono_is _, Reg.mono_is _, Reg.mono_is _, Reg.mono_is _, Reg.mono_is _, trivial⟩ (Reg.noneOkN_of (by rfl)) ⟨?_, ?_, ?_, ?_, ?_, ?_, ?_, ?_, ?_, trivial⟩ ?_ ?_ ?_
  · intro a w hl   -- 0: slot 42
    have q4 : a.eval (.tmp 4) = .pointer (some ⟨T, 0, none⟩) := hl.out 4 rfl
    have qc : ∀ x, a.eval (.const x) = x := fun _ => rfl
    refine Reg.does_is (x := .agg #[.int .i64 6, .string ⟨#[]⟩, .string ⟨#[]⟩, .int .i64 0]) rfl rfl ?_
    have ht := blk_below HT.out hl.below
    have k0 := (blk_cell ht 0).trans rfl
    have k1 := (blk_cell ht 1).trans rfl
    have k2 := (blk_cell ht 2).trans rfl
    have k3 := (blk_cell ht 3).trans rfl
    clear hl ht
    generalize a.eval = ρ at *
    go_simp
  · intro a w hl   -- 1: slot 43
    have q4 : a.eval (.tmp 4) = .pointer (some ⟨T, 0, none⟩) := hl.out 4 rfl
    have qc : ∀ x, a.eval (.const x) = x := fun _ => rfl
    refine Reg.does_is (x := .pointer (some ⟨T, 3, none⟩)) rfl rfl ?_
    clear hl
    generalize a.eval = ρ at *
    go_simp
  · intro a w hl   -- 2: slot 44
    have q43 : a.eval (.tmp 43) = .pointer (some ⟨T, 3, none⟩) := hl.has 1 rfl
    have qc : ∀ x, a.eval (.const x) = x := fun _ => rfl
    refine Reg.does_is (x := .int .i64 0) rfl rfl ?_
    have ht := blk_below HT.out hl.below
    have k0 := (blk_cell ht 0).trans rfl
    have k1 := (blk_cell ht 1).trans rfl
    have k2 := (blk_cell ht 2).trans rfl
    have k3 := (blk_cell ht 3).trans rfl
    clear hl ht
    generalize a.eval = ρ at *
    go_simp
  · intro a w hl   -- 3: slot 45
    have q44 : a.eval (.tmp 44) = .int .i64 0 := hl.has 2 rfl
    have qc : ∀ x, a.eval (.const x) = x := fun _ => rfl
    refine Reg.does_is (x := .bool true) rfl rfl ?_
    have hm : decide ((0 : Int) ≤ 2147483647) = true := HM.out
    clear hl
    generalize a.eval = ρ at *
    go_simp
  · intro a w hl   -- 4: slot 46
    have q45 : a.eval (.tmp 45) = .bool true := hl.has 3 rfl
    have qc : ∀ x, a.eval (.const x) = x := fun _ => rfl
    refine Reg.does_is (x := .bool true) rfl rfl ?_
    clear hl
    generalize a.eval = ρ at *
    go_simp
  · intro a w hl   -- 5: slot 47
    have q0 : a.eval (.tmp 0) = .pointer (some ⟨g, 0, none⟩) := hl.out 0 rfl
    have q46 : a.eval (.tmp 46) = .bool true := hl.has 4 rfl
    have qc : ∀ x, a.eval (.const x) = x := fun _ => rfl
    refine Reg.does_is (x := .pointer (some ⟨g, 0, none⟩)) rfl (Reg.wanted_of rfl rfl (hl.yields 4 rfl rfl q46)) ?_
    clear hl
    generalize a.eval = ρ at *
    go_simp
  · intro a w hl   -- 6: slot 48
    have q47 : a.eval (.tmp 47) = .pointer (some ⟨g, 0, none⟩) := hl.has 5 rfl
    have q46 : a.eval (.tmp 46) = .bool true := hl.has 4 rfl
    have qc : ∀ x, a.eval (.const x) = x := fun _ => rfl
    refine Reg.does_call_is (x := .int .i64 e1) #[.pointer (some ⟨g, 0, none⟩)] rfl (Reg.wanted_of rfl rfl (hl.yields 4 rfl rfl q46)) Try.func29 (by kernel_rfl) rfl rfl (by simp [qc, q47]) ?_
    refine (err_calls (HR.out.below hl.below)).mono ?_
    rintro en w5 ⟨rfl, rfl⟩
    exact ⟨rfl, Below.refl _ _⟩
  · intro a w hl   -- 7: slot 49
    have q48 : a.eval (.tmp 48) = .int .i64 e1 := hl.has 6 rfl
    have q46 : a.eval (.tmp 46) = .bool true := hl.has 4 rfl
    have qc : ∀ x, a.eval (.const x) = x := fun _ => rfl
    refine Reg.does_is (x := .bool (e1 == 0)) rfl (Reg.wanted_of rfl rfl (hl.yields 4 rfl rfl q46)) ?_
    clear hl
    generalize a.eval = ρ at *
    go_simp
  · intro a w hl   -- 8: slot 50
    have q46 : a.eval (.tmp 46) = .bool true := hl.has 4 rfl
    have q49 : a.eval (.tmp 49) = .bool (e1 == 0) := hl.has 7 rfl
    have qc : ∀ x, a.eval (.const x) = x := fun _ => rfl
    refine Reg.does_is (x := .bool (e1 == 0)) rfl rfl ?_
    clear hl
    generalize a.eval = ρ at *
    go_simp
  · intro i hi   -- the free ones
    simp only [List.mem_cons, List.not_mem_nil, or_false] at hi
    rcases hi with rfl | rfl
    · intro o ho a w hl
      cases ho
      have q48 : a.eval (.tmp 48) = .int .i64 e1 := hl.has 6 rfl
      have q46 : a.eval (.tmp 46) = .bool true := hl.has 4 rfl
      have qc : ∀ x, a.eval (.const x) = x := fun _ => rfl
      refine ⟨Reg.wanted_of rfl rfl (hl.yields 4 rfl rfl q46), .bool (e1 == 0), rfl, fun w2 => ?_⟩
      clear hl
      generalize a.eval = ρ at *
      go_simp
    · intro o ho a w hl
      cases ho
      have q46 : a.eval (.tmp 46) = .bool true := hl.has 4 rfl
      have q49 : a.eval (.tmp 49) = .bool (e1 == 0) := hl.has 7 rfl
      have qc : ∀ x, a.eval (.const x) = x := fun _ => rfl
      refine ⟨rfl, .bool (e1 == 0), rfl, fun w2 => ?_⟩
      clear hl
      generalize a.eval = ρ at *
      go_simp
  · intro a w hl   -- the store
    have q2 : a.eval (.tmp 2) = .pointer (some ⟨N, 0, none⟩) := hl.out 2 rfl
    have q42 : a.eval (.tmp 42) = .agg #[.int .i64 6, .string ⟨#[]⟩, .string ⟨#[]⟩, .int .i64 0] := hl.has 0 rfl
    refine ⟨rfl, rfl, _, ?_, rfl⟩
    have hz := blk_below HZ.out hl.below
    have z0 := (blk_cell hz 0).trans rfl
    have z1 := (blk_cell hz 1).trans rfl
    have z2 := (blk_cell hz 2).trans rfl
    have z3 := (blk_cell hz 3).trans rfl
    have y0 := blk_frozen hz 0
    have y1 := blk_frozen hz 1
    have y2 := blk_frozen hz 2
    have y3 := blk_frozen hz 3
    clear hl hz
    generalize a.eval = ρ at *
    go_simp
  · rintro v w w5 hb ⟨e42, e43, e44, e45, e46, e47, e48, e49, e50, _⟩ hW
    replace e42 : v 0 = .agg #[.int .i64 6, .string ⟨#[]⟩, .string ⟨#[]⟩, .int .i64 0] := e42
    replace e43 : v 1 = .pointer (some ⟨T, 3, none⟩) := e43
    replace e44 : v 2 = .int .i64 0 := e44
    replace e45 : v 3 = .bool true := e45
    replace e46 : v 4 = .bool true := e46
    replace e47 : v 5 = .pointer (some ⟨g, 0, none⟩) := e47
    replace e48 : v 6 = .int .i64 e1 := e48
    replace e49 : v 7 = .bool (e1 == 0) := e49
    replace e50 : v 8 = .bool (e1 == 0) := e50
    simp only [Reg.putL, Act.put, List.setIfInBounds_toArray, List.set_cons_zero, List.set_cons_succ, e42, e43, e44, e45, e46, e47, e48, e49, e50]
    clear e42 e43 e44 e45 e46 e47 e48 e49 e50
    have hfin := four_put (blk_below HZ.out hb) (.int .i64 6) (.string ⟨#[]⟩) (.string ⟨#[]⟩) (.int .i64 0)
    rw [← hW] at hfin
    have HRE := Aside0.mk (Rd.high (HR.out.below hb) hfin.2 HGN.out)
    have HKE := Aside0.mk ((HKP.out.then_below hb).then_ (keeps_high hfin.2) (fun i h => Or.inr (by rw [HNE.out]; exact h)))
    clear hW
    generalize hxx : w5 = wy at hfin HRE HKE ⊢
    clear hxx hb
    go_wp2_with fail
    refine bodyPost_ret (results_ct rfl _ _ N 52 #[.int .i64 6, .string ⟨#[]⟩, .string ⟨#[]⟩, .int .i64 0] (0, 0) _ rfl hfin.1 Try.underlying52 rfl (by kernel_rfl)) rfl ?_
    unfold OPost
    rw [HRD.out]
    exact ⟨rfl, HRE.out, HKE.out⟩

set_option maxHeartbeats 8000000 in
set_option maxRecDepth 100000 in
theorem rop_stat {w : World} {g : Nat} {bs : List Int} {e : Int} (h : Rd w g bs e) (hby : Byte bs) {K : Int} (hK : num (rawO bs e ((1 : Nat) : Int)) = K) (hk1 : K = 7) :
    Calls Try.prog 38 #[.pointer (some ⟨g, 0, none⟩)] w (OPost w g (rdOp bs e)) := by
  have HZ := Aside0.mk (blk_new w (.cells #[.int .i64 0, .string ⟨#[]⟩, .string ⟨#[]⟩, .int .i64 0] 52))
  have HB := Aside0.mk (below_alloc (Below.refl w.heap.size w) (.cells #[.int .i64 0, .string ⟨#[]⟩, .string ⟨#[]⟩, .int .i64 0] 52))
  have HN := Aside0.mk (num_wide (h.below HB.out) hby (n := ((1 : Nat) : Int)) (by decide))
  have HGN := Aside0.mk h.lt
  have HY := Aside0.mk (show Byte (rawB bs e ((1 : Nat) : Int)) from hby.rawB _ _)
  have hEb := num4_bd (hby.rawO e ((1 : Nat) : Int)) (by have := rawO_le bs e 1; omega)
  rw [hK] at hEb HN
  have HRD := Aside0.mk (show rdOp bs e = rdK K (rawB bs e ((1 : Nat) : Int)) (rawE bs e ((1 : Nat) : Int)) by unfold rdOp; rw [hK])
  clear h hby hK
  generalize rawB bs e ((1 : Nat) : Int) = b1 at HN HY HRD
  generalize rawE bs e ((1 : Nat) : Int) = e1 at HN HRD
  go_enter Try.func38, Try.ntmps38
  go_upto_region 1 with fail
  obtain ⟨N, hN⟩ : ∃ N, w.heap.size = N := ⟨_, rfl⟩
  have HNE := Aside0.mk hN
  rw [hN] at HZ HGN
  try rw [hN]
  clear hN
  generalize w.alloc (.cells #[.int .i64 0, .string ⟨#[]⟩, .string ⟨#[]⟩, .int .i64 0] 52) = w1 at HZ HB HN ⊢
  go_wp2_with fail
  refine HN.out.mono ?_
  rintro en w2 ⟨rfl, hr, hk⟩
  have HR2 := Aside0.mk hr
  have HK2 := Aside0.mk ((Keeps.of_below HB.out (fun k => k = g)).then_ hk (fun i h => Or.inl h))
  have HZ2 := Aside0.mk (hk.blk HZ.out (by have := HGN.out; omega))
  clear hr hk HN HZ HB
  subst hk1
  go_upto_region 2 with fail
  have HT := Aside0.mk (blk_new w2 (.cells #[.int .i64 7, .string ⟨#[]⟩, .string ⟨#[]⟩, .int .i64 0] 52))
  have HR := Aside0.mk (HR2.out.below (below_alloc (Below.refl _ _) (.cells #[.int .i64 7, .string ⟨#[]⟩, .string ⟨#[]⟩, .int .i64 0] 52)))
  have HKP := Aside0.mk (HK2.out.then_below (below_alloc (Below.refl _ _) (.cells #[.int .i64 7, .string ⟨#[]⟩, .string ⟨#[]⟩, .int .i64 0] 52)))
  have HZ := Aside0.mk (blk_below HZ2.out (below_alloc (Below.refl _ _) (.cells #[.int .i64 7, .string ⟨#[]⟩, .string ⟨#[]⟩, .int .i64 0] 52)))
  have HGT := Aside0.mk (show N < w2.heap.size ∧ g < w2.heap.size from ⟨blk_lt HZ2.out, HR2.out.lt⟩)
  clear HR2 HK2 HZ2
  generalize w2.alloc (.cells #[.int .i64 7, .string ⟨#[]⟩, .string ⟨#[]⟩, .int .i64 0] 52) = w3 at HT HR HKP HZ ⊢
  generalize w2.heap.size = T at HT HGT ⊢
  have k0 := (blk_cell HT.out 0).trans rfl
  go_upto_region 14 with fail
  clear k0
  have HM := Aside0.mk (show decide ((0 : Int) ≤ 2147483647) = true by decide)
  refine Reg.region_store 9 0 0 [7, 8] (fun v1 v2 w w' => w' = (((w.setCell ⟨N, 0, none⟩ (.int .i64 7)).setCell ⟨N, 1, none⟩ (.string ⟨#[]⟩)).setCell ⟨N, 2, none⟩ (.string ⟨#[]⟩)).setCell ⟨N, 3, none⟩ (.int .i64 0)) [Reg.Is (.agg #[.int .i64 7, .string ⟨#[]⟩, .string ⟨#[]⟩, .int .i64 0]), Reg.Is (.pointer (some ⟨T, 3, none⟩)), Reg.Is (.int .i64 0), Reg.Is (.bool true), Reg.Is (.bool true), Reg.Is (.pointer (some ⟨g, 0, none⟩)), Reg.Is (.int .i64 e1), Reg.Is (.bool (e1 == 0)), Reg.Is (.bool (e1 == 0))]
      [some 42, some 43, some 44, some 45, some 46, some 47, some 48, some 49, some 50] (by kernel_rfl) (by rfl) (by rfl) (by rfl) (by rfl) rfl (by kernel_rfl) (by kernel_rfl) (by kernel_rfl) ⟨Reg.mono_is _, Reg.mono_is _, Reg.mono_is _, Reg.mono_is _, Reg.mono_is _, Reg.mono_is _, Reg.mono_is _, Reg.mono_is _, Reg.mono_is _, trivial⟩ (Reg.noneOkN_of (by rfl)) ⟨?_, ?_, ?_, ?_, ?_, ?_, ?_, ?_, ?_, trivial⟩ ?_ ?_ ?_
  · intro a w hl   -- 0: slot 42
    have q4 : a.eval (.tmp 4) = .pointer (some ⟨T, 0, none⟩) := hl.out 4 rfl
    have qc : ∀ x, a.eval (.const x) = x := fun _ => rfl
    refine Reg.does_is (x := .agg #[.int .i64 7, .string ⟨#[]⟩, .string ⟨#[]⟩, .int .i64 0]) rfl rfl ?_
    have ht := blk_below HT.out hl.below
    have k0 := (blk_cell ht 0).trans rfl
    have k1 := (blk_cell ht 1).trans rfl
    have k2 := (blk_cell ht 2).trans rfl
    have k3 := (blk_cell ht 3).trans rfl
    clear hl ht
    generalize a.eval = ρ at *
    go_simp
  · intro a w hl   -- 1: slot 43
    have q4 : a.eval (.tmp 4) = .pointer (some ⟨T, 0, none⟩) := hl.out 4 rfl
    have qc : ∀ x, a.eval (.const x) = x := fun _ => rfl
    refine Reg.does_is (x := .pointer (some ⟨T, 3, none⟩)) rfl rfl ?_
    clear hl
    generalize a.eval = ρ at *
    go_simp
  · intro a w hl   -- 2: slot 44
    have q43 : a.eval (.tmp 43) = .pointer (some ⟨T, 3, none⟩) := hl.has 1 rfl
    have qc : ∀ x, a.eval (.const x) = x := fun _ => rfl
    refine Reg.does_is (x := .int .i64 0) rfl rfl ?_
    have ht := blk_below HT.out hl.below
    have k0 := (blk_cell ht 0).trans rfl
    have k1 := (blk_cell ht 1).trans rfl
    have k2 := (blk_cell ht 2).trans rfl
    have k3 := (blk_cell ht 3).trans rfl
    clear hl ht
    generalize a.eval = ρ at *
    go_simp
  · intro a w hl   -- 3: slot 45
    have q44 : a.eval (.tmp 44) = .int .i64 0 := hl.has 2 rfl
    have qc : ∀ x, a.eval (.const x) = x := fun _ => rfl
    refine Reg.does_is (x := .bool true) rfl rfl ?_
    have hm : decide ((0 : Int) ≤ 2147483647) = true := HM.out
    clear hl
    generalize a.eval = ρ at *
    go_simp
  · intro a w hl   -- 4: slot 46
    have q45 : a.eval (.tmp 45) = .bool true := hl.has 3 rfl
    have qc : ∀ x, a.eval (.const x) = x := fun _ => rfl
    refine Reg.does_is (x := .bool true) rfl rfl ?_
    clear hl
    generalize a.eval = ρ at *
    go_simp
  · intro a w hl   -- 5: slot 47
    have q0 : a.eval (.tmp 0) = .pointer (some ⟨g, 0, none⟩) := hl.out 0 rfl
    have q46 : a.eval (.tmp 46) = .bool true := hl.has 4 rfl
    have qc : ∀ x, a.eval (.const x) = x := fun _ => rfl
    refine Reg.does_is (x := .pointer (some ⟨g, 0, none⟩)) rfl (Reg.wanted_of rfl rfl (hl.yields 4 rfl rfl q46)) ?_
    clear hl
    generalize a.eval = ρ at *
    go_simp
  · intro a w hl   -- 6: slot 48
    have q47 : a.eval (.tmp 47) = .pointer (some ⟨g, 0, none⟩) := hl.has 5 rfl
    have q46 : a.eval (.tmp 46) = .bool true := hl.has 4 rfl
    have qc : ∀ x, a.eval (.const x) = x := fun _ => rfl
    refine Reg.does_call_is (x := .int .i64 e1) #[.pointer (some ⟨g, 0, none⟩)] rfl (Reg.wanted_of rfl rfl (hl.yields 4 rfl rfl q46)) Try.func29 (by kernel_rfl) rfl rfl (by simp [qc, q47]) ?_
    refine (err_calls (HR.out.below hl.below)).mono ?_
    rintro en w5 ⟨rfl, rfl⟩
    exact ⟨rfl, Below.refl _ _⟩
  · intro a w hl   -- 7: slot 49
    have q48 : a.eval (.tmp 48) = .int .i64 e1 := hl.has 6 rfl
    have q46 : a.eval (.tmp 46) = .bool true := hl.has 4 rfl
    have qc : ∀ x, a.eval (.const x) = x := fun _ => rfl
    refine Reg.does_is (x := .bool (e1 == 0)) rfl (Reg.wanted_of rfl rfl (hl.yields 4 rfl rfl q46)) ?_
    clear hl
    generalize a.eval = ρ at *
    go_simp
  · intro a w hl   -- 8: slot 50
    have q46 : a.eval (.tmp 46) = .bool true := hl.has 4 rfl
    have q49 : a.eval (.tmp 49) = .bool (e1 == 0) := hl.has 7 rfl
    have qc : ∀ x, a.eval (.const x) = x := fun _ => rfl
    refine Reg.does_is (x := .bool (e1 == 0)) rfl rfl ?_
    clear hl
    generalize a.eval = ρ at *
    go_simp
  · intro i hi   -- the free ones
    simp only [List.mem_cons, List.not_mem_nil, or_false] at hi
    rcases hi with rfl | rfl
    · intro o ho a w hl
      cases ho
      have q48 : a.eval (.tmp 48) = .int .i64 e1 := hl.has 6 rfl
      have q46 : a.eval (.tmp 46) = .bool true := hl.has 4 rfl
      have qc : ∀ x, a.eval (.const x) = x := fun _ => rfl
      refine ⟨Reg.wanted_of rfl rfl (hl.yields 4 rfl rfl q46), .bool (e1 == 0), rfl, fun w2 => ?_⟩
      clear hl
      generalize a.eval = ρ at *
      go_simp
    · intro o ho a w hl
      cases ho
      have q46 : a.eval (.tmp 46) = .bool true := hl.has 4 rfl
      have q49 : a.eval (.tmp 49) = .bool (e1 == 0) := hl.has 7 rfl
      have qc : ∀ x, a.eval (.const x) = x := fun _ => rfl
      refine ⟨rfl, .bool (e1 == 0), rfl, fun w2 => ?_⟩
      clear hl
      generalize a.eval = ρ at *
      go_simp
  · intro a w hl   -- the store
    have q2 : a.eval (.tmp 2) = .pointer (some ⟨N, 0, none⟩) := hl.out 2 rfl
    have q42 : a.eval (.tmp 42) = .agg #[.int .i64 7, .string ⟨#[]⟩, .string ⟨#[]⟩, .int .i64 0] := hl.has 0 rfl
    refine ⟨rfl, rfl, _, ?_, rfl⟩
    have hz := blk_below HZ.out hl.below
    have z0 := (blk_cell hz 0).trans rfl
    have z1 := (blk_cell hz 1).trans rfl
    have z2 := (blk_cell hz 2).trans rfl
    have z3 := (blk_cell hz 3).trans rfl
    have y0 := blk_frozen hz 0
    have y1 := blk_frozen hz 1
    have y2 := blk_frozen hz 2
    have y3 := blk_frozen hz 3
    clear hl hz
    generalize a.eval = ρ at *
    go_simp
  · rintro v w w5 hb ⟨e42, e43, e44, e45, e46, e47, e48, e49, e50, _⟩ hW
    replace e42 : v 0 = .agg #[.int .i64 7, .string ⟨#[]⟩, .string ⟨#[]⟩, .int .i64 0] := e42
    replace e43 : v 1 = .pointer (some ⟨T, 3, none⟩) := e43
    replace e44 : v 2 = .int .i64 0 := e44
    replace e45 : v 3 = .bool true := e45
    replace e46 : v 4 = .bool true := e46
    replace e47 : v 5 = .pointer (some ⟨g, 0, none⟩) := e47
    replace e48 : v 6 = .int .i64 e1 := e48
    replace e49 : v 7 = .bool (e1 == 0) := e49
    replace e50 : v 8 = .bool (e1 == 0) := e50
    simp only [Reg.putL, Act.put, List.setIfInBounds_toArray, List.set_cons_zero, List.set_cons_succ, e42, e43, e44, e45, e46, e47, e48, e49, e50]
    clear e42 e43 e44 e45 e46 e47 e48 e49 e50
    have hfin := four_put (blk_below HZ.out hb) (.int .i64 7) (.string ⟨#[]⟩) (.string ⟨#[]⟩) (.int .i64 0)
    rw [← hW] at hfin
    have HRE := Aside0.mk (Rd.high (HR.out.below hb) hfin.2 HGN.out)
    have HKE := Aside0.mk ((HKP.out.then_below hb).then_ (keeps_high hfin.2) (fun i h => Or.inr (by rw [HNE.out]; exact h)))
    clear hW
    generalize hxx : w5 = wy at hfin HRE HKE ⊢
    clear hxx hb
    go_wp2_with fail
    refine bodyPost_ret (results_ct rfl _ _ N 52 #[.int .i64 7, .string ⟨#[]⟩, .string ⟨#[]⟩, .int .i64 0] (0, 0) _ rfl hfin.1 Try.underlying52 rfl (by kernel_rfl)) rfl ?_
    unfold OPost
    rw [HRD.out]
    exact ⟨rfl, HRE.out, HKE.out⟩

set_option maxHeartbeats 8000000 in
set_option maxRecDepth 100000 in
theorem rop_range {w : World} {g : Nat} {bs : List Int} {e : Int} (h : Rd w g bs e) (hby : Byte bs) {K : Int} (hK : num (rawO bs e ((1 : Nat) : Int)) = K) (hk1 : K = 4) :
    Calls Try.prog 38 #[.pointer (some ⟨g, 0, none⟩)] w (OPost w g (rdOp bs e)) := by
  have HZ := Aside0.mk (blk_new w (.cells #[.int .i64 0, .string ⟨#[]⟩, .string ⟨#[]⟩, .int .i64 0] 52))
  have HB := Aside0.mk (below_alloc (Below.refl w.heap.size w) (.cells #[.int .i64 0, .string ⟨#[]⟩, .string ⟨#[]⟩, .int .i64 0] 52))
  have HN := Aside0.mk (num_wide (h.below HB.out) hby (n := ((1 : Nat) : Int)) (by decide))
  have HGN := Aside0.mk h.lt
  have HY := Aside0.mk (show Byte (rawB bs e ((1 : Nat) : Int)) from hby.rawB _ _)
  have hEb := num4_bd (hby.rawO e ((1 : Nat) : Int)) (by have := rawO_le bs e 1; omega)
  rw [hK] at hEb HN
  have HRD := Aside0.mk (show rdOp bs e = rdK K (rawB bs e ((1 : Nat) : Int)) (rawE bs e ((1 : Nat) : Int)) by unfold rdOp; rw [hK])
  clear h hby hK
  generalize rawB bs e ((1 : Nat) : Int) = b1 at HN HY HRD
  generalize rawE bs e ((1 : Nat) : Int) = e1 at HN HRD
  go_enter Try.func38, Try.ntmps38
  go_upto_region 1 with fail
  obtain ⟨N, hN⟩ : ∃ N, w.heap.size = N := ⟨_, rfl⟩
  have HNE := Aside0.mk hN
  rw [hN] at HZ HGN
  try rw [hN]
  clear hN
  generalize w.alloc (.cells #[.int .i64 0, .string ⟨#[]⟩, .string ⟨#[]⟩, .int .i64 0] 52) = w1 at HZ HB HN ⊢
  go_wp2_with fail
  refine HN.out.mono ?_
  rintro en w2 ⟨rfl, hr, hk⟩
  have HR2 := Aside0.mk hr
  have HK2 := Aside0.mk ((Keeps.of_below HB.out (fun k => k = g)).then_ hk (fun i h => Or.inl h))
  have HZ2 := Aside0.mk (hk.blk HZ.out (by have := HGN.out; omega))
  clear hr hk HN HZ HB
  subst hk1
  unfold rdK at HRD
  rw [if_neg (by decide), if_neg (by decide), if_pos rfl] at HRD
  go_upto_region 2 with fail
  have HT := Aside0.mk (blk_new w2 (.cells #[.int .i64 4, .string ⟨#[]⟩, .string ⟨#[]⟩, .int .i64 0] 52))
  have HR := Aside0.mk (HR2.out.below (below_alloc (Below.refl _ _) (.cells #[.int .i64 4, .string ⟨#[]⟩, .string ⟨#[]⟩, .int .i64 0] 52)))
  have HKP := Aside0.mk (HK2.out.then_below (below_alloc (Below.refl _ _) (.cells #[.int .i64 4, .string ⟨#[]⟩, .string ⟨#[]⟩, .int .i64 0] 52)))
  have HZ := Aside0.mk (blk_below HZ2.out (below_alloc (Below.refl _ _) (.cells #[.int .i64 4, .string ⟨#[]⟩, .string ⟨#[]⟩, .int .i64 0] 52)))
  have HGT := Aside0.mk (show N < w2.heap.size ∧ g < w2.heap.size from ⟨blk_lt HZ2.out, HR2.out.lt⟩)
  clear HR2 HK2 HZ2
  generalize w2.alloc (.cells #[.int .i64 4, .string ⟨#[]⟩, .string ⟨#[]⟩, .int .i64 0] 52) = w3 at HT HR HKP HZ ⊢
  generalize w2.heap.size = T at HT HGT ⊢
  have k0 := (blk_cell HT.out 0).trans rfl
  go_wp2_with fail
  clear k0
  refine (rshort_calls HR.out HY.out).mono ?_
  rintro en w4 ⟨rfl, hr, hk⟩
  have HY2 := Aside0.mk (show Byte (rdB 1 b1 e1) from by unfold rdB; exact (HY.out.rawB _ _).rawB _ _)
  have HR1 := Aside0.mk hr
  have HK1 := Aside0.mk (HKP.out.trans hk)
  have HT1 := Aside0.mk (hk.blk HT.out (by have := HGT.out; have := HGN.out; omega))
  have HZ1 := Aside0.mk (hk.blk HZ.out (by have := HGN.out; omega))
  clear hr hk HR HKP HT HZ
  have HR := HR1
  have HKP := HK1
  have HT := HT1
  have HZ := HZ1
  clear HR1 HK1 HT1 HZ1
  generalize rdS 1 b1 e1 = s1 at HRD ⊢
  generalize rdB 1 b1 e1 = b2 at HRD HY2 HR
  generalize rdE 1 b1 e1 = e2 at HRD HR
  clear HY
  have HY := HY2
  clear HY2
  go_wp2_with fail

  refine (rshort_calls HR.out HY.out).mono ?_
  rintro en w5 ⟨rfl, hr, hk⟩
  have HY2 := Aside0.mk (show Byte (rdB 1 b2 e2) from by unfold rdB; exact (HY.out.rawB _ _).rawB _ _)
  have HR1 := Aside0.mk hr
  have HK1 := Aside0.mk (HKP.out.trans hk)
  have HT1 := Aside0.mk (hk.blk HT.out (by have := HGT.out; have := HGN.out; omega))
  have HZ1 := Aside0.mk (hk.blk HZ.out (by have := HGN.out; omega))
  clear hr hk HR HKP HT HZ
  have HR := HR1
  have HKP := HK1
  have HT := HT1
  have HZ := HZ1
  clear HR1 HK1 HT1 HZ1
  generalize rdS 1 b2 e2 = s2 at HRD ⊢
  generalize rdB 1 b2 e2 = b3 at HRD HY2 HR
  generalize rdE 1 b2 e2 = e3 at HRD HR
  clear HY
  have HY := HY2
  clear HY2
  have hnb := num4_bd (HY.out.rawO e3 ((4 : Nat) : Int)) (by have := rawO_le b3 e3 4; omega)
  have HNW := Aside0.mk (num_wide HR.out HY.out (n := ((4 : Nat) : Int)) (by decide))
  generalize num (rawO b3 e3 ((4 : Nat) : Int)) = n3 at HNW hnb HRD
  go_wp2_with fail
  refine HNW.out.mono ?_
  rintro en w6 ⟨rfl, hr, hk⟩
  clear HNW HY
  have HR1 := Aside0.mk hr
  have HK1 := Aside0.mk (HKP.out.trans hk)
  have HT1 := Aside0.mk (hk.blk HT.out (by have := HGT.out; have := HGN.out; omega))
  have HZ1 := Aside0.mk (hk.blk HZ.out (by have := HGN.out; omega))
  clear hr hk HR HKP HT HZ
  have HR := HR1
  have HKP := HK1
  have HT := HT1
  have HZ := HZ1
  clear HR1 HK1 HT1 HZ1
  generalize rawB b3 e3 ((4 : Nat) : Int) = b4 at HRD HR
  generalize rawE b3 e3 ((4 : Nat) : Int) = e4 at HRD HR
  have r1 := (blk_cell HT.out 1).trans rfl
  have f1 := blk_frozen HT.out 1
  have r2 := (blk_cell HT.out 2).trans rfl
  have f2 := blk_frozen HT.out 2
  have r3 := (blk_cell HT.out 3).trans rfl
  have f3 := blk_frozen HT.out 3
  go_upto_region 14 with fail
  clear r1 f1
  clear r2 f2
  clear r3 f3
  have HR1 := Aside0.mk (Rd.high HR.out (below_setB (p := ⟨T, 1, none⟩) (Below.refl T _) (Nat.le_refl _) (.string s1)) HGT.out.2)
  have HT1 := Aside0.mk (blk_put (cs' := #[.int .i64 4, .string s1, .string ⟨#[]⟩, .int .i64 0]) HT.out 1 (.string s1) rfl)
  have HZ1 := Aside0.mk (((below_setB (p := ⟨T, 1, none⟩) (Below.refl T _) (Nat.le_refl _) (.string s1)).block N HGT.out.1).trans HZ.out)
  have HK1 := Aside0.mk (HKP.out.set (p := ⟨T, 1, none⟩) (Or.inr (by have := HNE.out; have := HGT.out; show w.heap.size ≤ T; omega)) (.string s1))
  clear HR HT HZ HKP
  have HR := HR1
  have HKP := HK1
  have HT := HT1
  have HZ := HZ1
  clear HR1 HK1 HT1 HZ1
  have HR1 := Aside0.mk (Rd.high HR.out (below_setB (p := ⟨T, 2, none⟩) (Below.refl T _) (Nat.le_refl _) (.string s2)) HGT.out.2)
  have HT1 := Aside0.mk (blk_put (cs' := #[.int .i64 4, .string s1, .string s2, .int .i64 0]) HT.out 2 (.string s2) rfl)
  have HZ1 := Aside0.mk (((below_setB (p := ⟨T, 2, none⟩) (Below.refl T _) (Nat.le_refl _) (.string s2)).block N HGT.out.1).trans HZ.out)
  have HK1 := Aside0.mk (HKP.out.set (p := ⟨T, 2, none⟩) (Or.inr (by have := HNE.out; have := HGT.out; show w.heap.size ≤ T; omega)) (.string s2))
  clear HR HT HZ HKP
  have HR := HR1
  have HKP := HK1
  have HT := HT1
  have HZ := HZ1
  clear HR1 HK1 HT1 HZ1
  have HR1 := Aside0.mk (Rd.high HR.out (below_setB (p := ⟨T, 3, none⟩) (Below.refl T _) (Nat.le_refl _) (.int .i64 n3)) HGT.out.2)
  have HT1 := Aside0.mk (blk_put (cs' := #[.int .i64 4, .string s1, .string s2, .int .i64 n3]) HT.out 3 (.int .i64 n3) rfl)
  have HZ1 := Aside0.mk (((below_setB (p := ⟨T, 3, none⟩) (Below.refl T _) (Nat.le_refl _) (.int .i64 n3)).block N HGT.out.1).trans HZ.out)
  have HK1 := Aside0.mk (HKP.out.set (p := ⟨T, 3, none⟩) (Or.inr (by have := HNE.out; have := HGT.out; show w.heap.size ≤ T; omega)) (.int .i64 n3))
  clear HR HT HZ HKP
  have HR := HR1
  have HKP := HK1
  have HT := HT1
  have HZ := HZ1
  clear HR1 HK1 HT1 HZ1
  generalize ((w6.setCell ⟨T, 1, none⟩ (.string s1)).setCell ⟨T, 2, none⟩ (.string s2)).setCell ⟨T, 3, none⟩ (.int .i64 n3) = wf at HR HT HZ HKP ⊢
  by_cases hmm : n3 ≤ 2147483647
  · have HM := Aside0.mk (show decide (n3 ≤ 2147483647) = true from decide_eq_true hmm)
    have HRW := Aside0.mk (show rdOp bs e = (⟨4, s1, s2, n3⟩, b4, e4, e4 == 0) from HRD.out.trans (by show (_, _, _, decide (n3 ≤ 2147483647) && (e4 == 0)) = _; rw [decide_eq_true hmm]; rfl))
    clear HRD hnb hmm
    have HRD := HRW
    clear HRW
    refine Reg.region_store 9 0 0 [7, 8] (fun v1 v2 w w' => w' = (((w.setCell ⟨N, 0, none⟩ (.int .i64 4)).setCell ⟨N, 1, none⟩ (.string s1)).setCell ⟨N, 2, none⟩ (.string s2)).setCell ⟨N, 3, none⟩ (.int .i64 n3)) [Reg.Is (.agg #[.int .i64 4, .string s1, .string s2, .int .i64 n3]), Reg.Is (.pointer (some ⟨T, 3, none⟩)), Reg.Is (.int .i64 n3), Reg.Is (.bool true), Reg.Is (.bool true), Reg.Is (.pointer (some ⟨g, 0, none⟩)), Reg.Is (.int .i64 e4), Reg.Is (.bool (e4 == 0)), Reg.Is (.bool (e4 == 0))]
        [some 42, some 43, some 44, some 45, some 46, some 47, some 48, some 49, some 50] (by kernel_rfl) (by rfl) (by rfl) (by rfl) (by rfl) rfl (by kernel_rfl) (by kernel_rfl) (by kernel_rfl) ⟨Reg.mono_is _, Reg.mono_is _, Reg.mono_is _, Reg.mono_is _, Reg.mono_is _, Reg.mono_is _, Reg.mono_is _, Reg.mono_is _, Reg.mono_is _, trivial⟩ (Reg.noneOkN_of (by rfl)) ⟨?_, ?_, ?_, ?_, ?_, ?_, ?_, ?_, ?_, trivial⟩ ?_ ?_ ?_
    · intro a w hl   -- 0: slot 42
      have q4 : a.eval (.tmp 4) = .pointer (some ⟨T, 0, none⟩) := hl.out 4 rfl
      have qc : ∀ x, a.eval (.const x) = x := fun _ => rfl
      refine Reg.does_is (x := .agg #[.int .i64 4, .string s1, .string s2, .int .i64 n3]) rfl rfl ?_
      have ht := blk_below HT.out hl.below
      have k0 := (blk_cell ht 0).trans rfl
      have k1 := (blk_cell ht 1).trans rfl
      have k2 := (blk_cell ht 2).trans rfl
      have k3 := (blk_cell ht 3).trans rfl
      clear hl ht
      generalize a.eval = ρ at *
      go_simp
    · intro a w hl   -- 1: slot 43
      have q4 : a.eval (.tmp 4) = .pointer (some ⟨T, 0, none⟩) := hl.out 4 rfl
      have qc : ∀ x, a.eval (.const x) = x := fun _ => rfl
      refine Reg.does_is (x := .pointer (some ⟨T, 3, none⟩)) rfl rfl ?_
      clear hl
      generalize a.eval = ρ at *
      go_simp
    · intro a w hl   -- 2: slot 44
      have q43 : a.eval (.tmp 43) = .pointer (some ⟨T, 3, none⟩) := hl.has 1 rfl
      have qc : ∀ x, a.eval (.const x) = x := fun _ => rfl
      refine Reg.does_is (x := .int .i64 n3) rfl rfl ?_
      have ht := blk_below HT.out hl.below
      have k0 := (blk_cell ht 0).trans rfl
      have k1 := (blk_cell ht 1).trans rfl
      have k2 := (blk_cell ht 2).trans rfl
      have k3 := (blk_cell ht 3).trans rfl
      clear hl ht
      generalize a.eval = ρ at *
      go_simp
    · intro a w hl   -- 3: slot 45
      have q44 : a.eval (.tmp 44) = .int .i64 n3 := hl.has 2 rfl
      have qc : ∀ x, a.eval (.const x) = x := fun _ => rfl
      refine Reg.does_is (x := .bool true) rfl rfl ?_
      have hm : decide ((n3 : Int) ≤ 2147483647) = true := HM.out
      clear hl
      generalize a.eval = ρ at *
      go_simp
    · intro a w hl   -- 4: slot 46
      have q45 : a.eval (.tmp 45) = .bool true := hl.has 3 rfl
      have qc : ∀ x, a.eval (.const x) = x := fun _ => rfl
      refine Reg.does_is (x := .bool true) rfl rfl ?_
      clear hl
      generalize a.eval = ρ at *
      go_simp
    · intro a w hl   -- 5: slot 47
      have q0 : a.eval (.tmp 0) = .pointer (some ⟨g, 0, none⟩) := hl.out 0 rfl
      have q46 : a.eval (.tmp 46) = .bool true := hl.has 4 rfl
      have qc : ∀ x, a.eval (.const x) = x := fun _ => rfl
      refine Reg.does_is (x := .pointer (some ⟨g, 0, none⟩)) rfl (Reg.wanted_of rfl rfl (hl.yields 4 rfl rfl q46)) ?_
      clear hl
      generalize a.eval = ρ at *
      go_simp
    · intro a w hl   -- 6: slot 48
      have q47 : a.eval (.tmp 47) = .pointer (some ⟨g, 0, none⟩) := hl.has 5 rfl
      have q46 : a.eval (.tmp 46) = .bool true := hl.has 4 rfl
      have qc : ∀ x, a.eval (.const x) = x := fun _ => rfl
      refine Reg.does_call_is (x := .int .i64 e4) #[.pointer (some ⟨g, 0, none⟩)] rfl (Reg.wanted_of rfl rfl (hl.yields 4 rfl rfl q46)) Try.func29 (by kernel_rfl) rfl rfl (by simp [qc, q47]) ?_
      refine (err_calls (HR.out.below hl.below)).mono ?_
      rintro en w5 ⟨rfl, rfl⟩
      exact ⟨rfl, Below.refl _ _⟩
    · intro a w hl   -- 7: slot 49
      have q48 : a.eval (.tmp 48) = .int .i64 e4 := hl.has 6 rfl
      have q46 : a.eval (.tmp 46) = .bool true := hl.has 4 rfl
      have qc : ∀ x, a.eval (.const x) = x := fun _ => rfl
      refine Reg.does_is (x := .bool (e4 == 0)) rfl (Reg.wanted_of rfl rfl (hl.yields 4 rfl rfl q46)) ?_
      clear hl
      generalize a.eval = ρ at *
      go_simp
    · intro a w hl   -- 8: slot 50
      have q46 : a.eval (.tmp 46) = .bool true := hl.has 4 rfl
      have q49 : a.eval (.tmp 49) = .bool (e4 == 0) := hl.has 7 rfl
      have qc : ∀ x, a.eval (.const x) = x := fun _ => rfl
      refine Reg.does_is (x := .bool (e4 == 0)) rfl rfl ?_
      clear hl
      generalize a.eval = ρ at *
      go_simp
    · intro i hi   -- the free ones
      simp only [List.mem_cons, List.not_mem_nil, or_false] at hi
      rcases hi with rfl | rfl
      · intro o ho a w hl
        cases ho
        have q48 : a.eval (.tmp 48) = .int .i64 e4 := hl.has 6 rfl
        have q46 : a.eval (.tmp 46) = .bool true := hl.has 4 rfl
        have qc : ∀ x, a.eval (.const x) = x := fun _ => rfl
        refine ⟨Reg.wanted_of rfl rfl (hl.yields 4 rfl rfl q46), .bool (e4 == 0), rfl, fun w2 => ?_⟩
        clear hl
        generalize a.eval = ρ at *
        go_simp
      · intro o ho a w hl
        cases ho
        have q46 : a.eval (.tmp 46) = .bool true := hl.has 4 rfl
        have q49 : a.eval (.tmp 49) = .bool (e4 == 0) := hl.has 7 rfl
        have qc : ∀ x, a.eval (.const x) = x := fun _ => rfl
        refine ⟨rfl, .bool (e4 == 0), rfl, fun w2 => ?_⟩
        clear hl
        generalize a.eval = ρ at *
        go_simp
    · intro a w hl   -- the store
      have q2 : a.eval (.tmp 2) = .pointer (some ⟨N, 0, none⟩) := hl.out 2 rfl
      have q42 : a.eval (.tmp 42) = .agg #[.int .i64 4, .string s1, .string s2, .int .i64 n3] := hl.has 0 rfl
      refine ⟨rfl, rfl, _, ?_, rfl⟩
      have hz := blk_below HZ.out hl.below
      have z0 := (blk_cell hz 0).trans rfl
      have z1 := (blk_cell hz 1).trans rfl
      have z2 := (blk_cell hz 2).trans rfl
      have z3 := (blk_cell hz 3).trans rfl
      have y0 := blk_frozen hz 0
      have y1 := blk_frozen hz 1
      have y2 := blk_frozen hz 2
      have y3 := blk_frozen hz 3
      clear hl hz
      generalize a.eval = ρ at *
      go_simp
    · rintro v w w5 hb ⟨e42, e43, e44, e45, e46, e47, e48, e49, e50, _⟩ hW
      replace e42 : v 0 = .agg #[.int .i64 4, .string s1, .string s2, .int .i64 n3] := e42
      replace e43 : v 1 = .pointer (some ⟨T, 3, none⟩) := e43
      replace e44 : v 2 = .int .i64 n3 := e44
      replace e45 : v 3 = .bool true := e45
      replace e46 : v 4 = .bool true := e46
      replace e47 : v 5 = .pointer (some ⟨g, 0, none⟩) := e47
      replace e48 : v 6 = .int .i64 e4 := e48
      replace e49 : v 7 = .bool (e4 == 0) := e49
      replace e50 : v 8 = .bool (e4 == 0) := e50
      simp only [Reg.putL, Act.put, List.setIfInBounds_toArray, List.set_cons_zero, List.set_cons_succ, e42, e43, e44, e45, e46, e47, e48, e49, e50]
      clear e42 e43 e44 e45 e46 e47 e48 e49 e50
      have hfin := four_put (blk_below HZ.out hb) (.int .i64 4) (.string s1) (.string s2) (.int .i64 n3)
      rw [← hW] at hfin
      have HRE := Aside0.mk (Rd.high (HR.out.below hb) hfin.2 HGN.out)
      have HKE := Aside0.mk ((HKP.out.then_below hb).then_ (keeps_high hfin.2) (fun i h => Or.inr (by rw [HNE.out]; exact h)))
      clear hW
      generalize hxx : w5 = wy at hfin HRE HKE ⊢
      clear hxx hb
      go_wp2_with fail
      refine bodyPost_ret (results_ct rfl _ _ N 52 #[.int .i64 4, .string s1, .string s2, .int .i64 n3] (0, 0) _ rfl hfin.1 Try.underlying52 rfl (by kernel_rfl)) rfl ?_
      unfold OPost
      rw [HRD.out]
      exact ⟨rfl, HRE.out, HKE.out⟩
  · have g5 : decide (n3 ≤ 2147483647) = false := decide_eq_false hmm
    have HRW := Aside0.mk (show rdOp bs e = (⟨4, s1, s2, n3⟩, b4, e4, false) from HRD.out.trans (by show (_, _, _, decide (n3 ≤ 2147483647) && (e4 == 0)) = _; rw [decide_eq_false hmm]; rfl))
    have t0 := (blk_cell HT.out 0).trans rfl
    have t1 := (blk_cell HT.out 1).trans rfl
    have t2 := (blk_cell HT.out 2).trans rfl
    have t3 := (blk_cell HT.out 3).trans rfl
    have z0 := (blk_cell HZ.out 0).trans rfl
    have z1 := (blk_cell HZ.out 1).trans rfl
    have z2 := (blk_cell HZ.out 2).trans rfl
    have z3 := (blk_cell HZ.out 3).trans rfl
    have zf := fun i => blk_frozen HZ.out i
    clear HRD hnb hmm
    go_wp2_with fail
    go_region
    all_goals
      go_wp2_with fail
      have hfin := four_put HZ.out (.int .i64 4) (.string s1) (.string s2) (.int .i64 n3)
      refine bodyPost_ret (results_ct rfl _ _ N 52 #[.int .i64 4, .string s1, .string s2, .int .i64 n3] (0, 0) _ rfl hfin.1 Try.underlying52 rfl (by kernel_rfl)) rfl ?_
      unfold OPost
      rw [HRW.out]
      exact ⟨rfl, Rd.high HR.out ⟨hfin.2.os, hfin.2.tape, hfin.2.output, hfin.2.size, hfin.2.block⟩ HGN.out, (HKP.out.then_ (keeps_high hfin.2).drew (fun i h => Or.inr (by rw [HNE.out]; exact h)))⟩

set_option maxHeartbeats 8000000 in
set_option maxRecDepth 100000 in
theorem rop_none {w : World} {g : Nat} {bs : List Int} {e : Int} (h : Rd w g bs e) (hby : Byte bs) {K : Int} (hK : num (rawO bs e ((1 : Nat) : Int)) = K) (hk1 : K < 1 ∨ 7 < K) :
    Calls Try.prog 38 #[.pointer (some ⟨g, 0, none⟩)] w (OPost w g (rdOp bs e)) := by
  have HZ := Aside0.mk (blk_new w (.cells #[.int .i64 0, .string ⟨#[]⟩, .string ⟨#[]⟩, .int .i64 0] 52))
  have HB := Aside0.mk (below_alloc (Below.refl w.heap.size w) (.cells #[.int .i64 0, .string ⟨#[]⟩, .string ⟨#[]⟩, .int .i64 0] 52))
  have HN := Aside0.mk (num_wide (h.below HB.out) hby (n := ((1 : Nat) : Int)) (by decide))
  have HGN := Aside0.mk h.lt
  have HY := Aside0.mk (show Byte (rawB bs e ((1 : Nat) : Int)) from hby.rawB _ _)
  have hEb := num4_bd (hby.rawO e ((1 : Nat) : Int)) (by have := rawO_le bs e 1; omega)
  rw [hK] at hEb HN
  have HRD := Aside0.mk (show rdOp bs e = rdK K (rawB bs e ((1 : Nat) : Int)) (rawE bs e ((1 : Nat) : Int)) by unfold rdOp; rw [hK])
  clear h hby hK
  generalize rawB bs e ((1 : Nat) : Int) = b1 at HN HY HRD
  generalize rawE bs e ((1 : Nat) : Int) = e1 at HN HRD
  go_enter Try.func38, Try.ntmps38
  go_upto_region 1 with fail
  obtain ⟨N, hN⟩ : ∃ N, w.heap.size = N := ⟨_, rfl⟩
  have HNE := Aside0.mk hN
  rw [hN] at HZ HGN
  try rw [hN]
  clear hN
  generalize w.alloc (.cells #[.int .i64 0, .string ⟨#[]⟩, .string ⟨#[]⟩, .int .i64 0] 52) = w1 at HZ HB HN ⊢
  go_wp2_with fail
  refine HN.out.mono ?_
  rintro en w2 ⟨rfl, hr, hk⟩
  have HR2 := Aside0.mk hr
  have HK2 := Aside0.mk ((Keeps.of_below HB.out (fun k => k = g)).then_ hk (fun i h => Or.inl h))
  have HZ2 := Aside0.mk (hk.blk HZ.out (by have := HGN.out; omega))
  clear hr hk HN HZ HB
  have q1 : (K == 1) = false := beq_eq_false_iff_ne.2 (by omega)
  have q2 : (K == 2) = false := beq_eq_false_iff_ne.2 (by omega)
  have q3 : (K == 3) = false := beq_eq_false_iff_ne.2 (by omega)
  have q4 : (K == 4) = false := beq_eq_false_iff_ne.2 (by omega)
  have q5 : (K == 5) = false := beq_eq_false_iff_ne.2 (by omega)
  have q6 : (K == 6) = false := beq_eq_false_iff_ne.2 (by omega)
  have q7 : (K == 7) = false := beq_eq_false_iff_ne.2 (by omega)
  go_upto_region 2 with fail
  have HT := Aside0.mk (blk_new w2 (.cells #[.int .i64 K, .string ⟨#[]⟩, .string ⟨#[]⟩, .int .i64 0] 52))
  have HR := Aside0.mk (HR2.out.below (below_alloc (Below.refl _ _) (.cells #[.int .i64 K, .string ⟨#[]⟩, .string ⟨#[]⟩, .int .i64 0] 52)))
  have HKP := Aside0.mk (HK2.out.then_below (below_alloc (Below.refl _ _) (.cells #[.int .i64 K, .string ⟨#[]⟩, .string ⟨#[]⟩, .int .i64 0] 52)))
  have HZ := Aside0.mk (blk_below HZ2.out (below_alloc (Below.refl _ _) (.cells #[.int .i64 K, .string ⟨#[]⟩, .string ⟨#[]⟩, .int .i64 0] 52)))
  have HGT := Aside0.mk (show N < w2.heap.size ∧ g < w2.heap.size from ⟨blk_lt HZ2.out, HR2.out.lt⟩)
  clear HR2 HK2 HZ2
  generalize w2.alloc (.cells #[.int .i64 K, .string ⟨#[]⟩, .string ⟨#[]⟩, .int .i64 0] 52) = w3 at HT HR HKP HZ ⊢
  generalize w2.heap.size = T at HT HGT ⊢
  have HRW := Aside0.mk (show rdOp bs e = (⟨K, ⟨#[]⟩, ⟨#[]⟩, 0⟩, b1, e1, false) from HRD.out.trans (by unfold rdK; rw [if_neg (by omega), if_neg (by omega), if_neg (by omega), if_neg (by omega)]))
  have t0 := (blk_cell HT.out 0).trans rfl
  have t1 := (blk_cell HT.out 1).trans rfl
  have t2 := (blk_cell HT.out 2).trans rfl
  have t3 := (blk_cell HT.out 3).trans rfl
  have z0 := (blk_cell HZ.out 0).trans rfl
  have z1 := (blk_cell HZ.out 1).trans rfl
  have z2 := (blk_cell HZ.out 2).trans rfl
  have z3 := (blk_cell HZ.out 3).trans rfl
  have zf := fun i => blk_frozen HZ.out i
  clear HRD hk1
  go_wp2_with fail
  have hfin := four_put HZ.out (.int .i64 K) (.string ⟨#[]⟩) (.string ⟨#[]⟩) (.int .i64 0)
  refine bodyPost_ret (results_ct rfl _ _ N 52 #[.int .i64 K, .string ⟨#[]⟩, .string ⟨#[]⟩, .int .i64 0] (0, 0) _ rfl hfin.1 Try.underlying52 rfl (by kernel_rfl)) rfl ?_
  unfold OPost
  rw [HRW.out]
  exact ⟨rfl, Rd.high HR.out hfin.2 HGN.out, HKP.out.then_ (keeps_high hfin.2) (fun i h => Or.inr (by rw [HNE.out]; exact h))⟩

theorem rop_calls {w : World} {g : Nat} {bs : List Int} {e : Int} (h : Rd w g bs e) (hby : Byte bs) : Calls Try.prog 38 #[.pointer (some ⟨g, 0, none⟩)] w (OPost w g (rdOp bs e)) := by
  obtain ⟨K, hK⟩ : ∃ K, num (rawO bs e ((1 : Nat) : Int)) = K := ⟨_, rfl⟩
  by_cases h0 : K < 1 ∨ 7 < K
  · exact rop_none h hby hK h0
  · have h7 : K = 1 ∨ K = 2 ∨ K = 3 ∨ K = 4 ∨ K = 5 ∨ K = 6 ∨ K = 7 := by omega
    rcases h7 with h1 | h1 | h1 | h1 | h1 | h1 | h1
    · exact rop_put h hby hK h1
    · exact rop_del h hby hK h1
    · exact rop_get h hby hK h1
    · exact rop_range h hby hK h1
    · exact rop_sync h hby hK h1
    · exact rop_reopen h hby hK h1
    · exact rop_stat h hby hK h1
end Go.Proofs.Ytfpdapdnmkadeaa.Wire
