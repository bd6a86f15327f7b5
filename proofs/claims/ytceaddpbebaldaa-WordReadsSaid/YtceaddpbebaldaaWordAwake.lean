/- The page's examples of words. -/
import Derived.Test.YtceaddpbebaldaaWord6
namespace Go.Proofs.Ytceaddpbebaldaa.Word
open Go.RowKit Go.Proofs.YtceaddpbebaldaaW.PrintWords Go.Proofs.YtceaddpbebaldaaW.PrintLast Go.Proofs.YtceaddpbebaldaaW.PrintMore
open Go.Proofs.Ytceaddpbebaldaa Go.Proofs.Ytceaddpbebaldaa.Vals
set_option linter.unusedVariables false
set_option linter.unusedSimpArgs false

theorem lit3 {w : World} {a b c : Int} {t : TypeId} : Bys [a, b, c] (.slice (some ⟨w.heap.size, 0, none⟩) 3 3) (w.alloc (.cells #[.int .u8 a, .int .u8 b, .int .u8 c] t)) := by
  refine ⟨_, 3, rfl, Nat.le_refl _, ?_⟩
  exact C_row (d := Kd.int .u8) (xs := [a, b, c]) rfl (blk_new _ _) (by simp) (by simp) (fun j p u hj hu => by
    match j with
    | 0 => simp at hj hu; subst hj; subst hu; rfl
    | 1 => simp at hj hu; subst hj; subst hu; rfl
    | 2 => simp at hj hu; subst hj; subst hu; rfl
    | j + 3 => simp at hj)

theorem awake_calls (w : World) : Calls Try.prog 8 #[] w fun e w' => e = .returned (.bool true) ∧ Below w.heap.size w w' := by
  go_enter Try.func8, Try.ntmps8
  go_wp2_with fail
  refine (open_calls (bs := [97, 0, 0]) lit3 (by simp)).mono ?_
  rintro en w1 ⟨g, rfl, hr, hb, hg⟩
  have HR := Aside0.mk hr
  have HB := Aside0.mk (below_step (below_alloc (Below.refl _ _) _) hb)
  have HG := Aside0.mk hg
  clear hr hb hg
  go_wp2_with fail
  refine (put_wide (bs := []) (n := 2) (x := 258) (IsL.nil _ _) (by simp) (by decide) (by decide) (by decide)).mono ?_
  rintro en w2 ⟨v, rfl, hP, hb⟩
  obtain ⟨A, c, rfl, hc, hC⟩ := Kd.R_reads hP
  have hst := Kd.C_string (P := Try.prog) (src := 22) (dst := 9) (e := 5) (c := c) Try.underlying22 Try.underlying5 Try.underlying9 hC
  have hlen : ([] ++ be 2 258).length = 2 := by rfl
  rw [hlen] at hst hC ⊢
  rw [show strOfNums ([] ++ be 2 258) = (⟨#[1, 2]⟩ : ByteArray) from by rfl] at hst
  have HB2 := Aside0.mk (below_step HB.out hb)
  have HR2 := Aside0.mk (HR.out.below hb)
  clear hP hb hC hc HR HB
  have ht := text_ok HR2.out (n := 1) (m := 3) (by omega)
  have o1 : rawO [97, 0, 0] 0 ((3 : Nat) : Int) = [97, 0, 0] := by rfl
  have o2 : rawB [97, 0, 0] 0 ((3 : Nat) : Int) = [] := by rfl
  have o3 : rawE [97, 0, 0] 0 ((3 : Nat) : Int) = 0 := by rfl
  rw [o1, o2, o3, show textB [97, 0, 0] [] 1 3 = [] from by rfl, show textE [97, 0, 0] 0 1 3 = 0 from by rfl, show textS [97, 0, 0] 1 3 = (⟨#[97]⟩ : ByteArray) from by rfl] at ht
  have HT := Aside0.mk ht
  clear ht o1 o2 o3
  go_wp2_with fail
  refine HT.out.mono ?_
  rintro en w3 ⟨rfl, hr, hk⟩
  have HE := Aside0.mk (end_calls hr)
  have HB3 := Aside0.mk (Keeps.below_then HB2.out (Nat.le_refl _) hk (fun i hi => by have := HG.out; have h2 : i = g := hi; simp at this; omega))
  clear hr hk
  go_wp2_with fail
  refine HE.out.mono ?_
  rintro en w' ⟨rfl, rfl⟩
  go_wp2_with fail
  go_ret
  exact ⟨by simp, HB3.out⟩
end Go.Proofs.Ytceaddpbebaldaa.Word
