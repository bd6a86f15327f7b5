/- The law's own example. -/
import Derived.Test.YtdekhhimjnockaaDoorTuRT
namespace Go.Proofs.YtdekhhimjnockaaDoor.Tu
open Go.RowKit Go.Proofs.YtdekhhimjnockaaDoorW.PrintWords Go.Proofs.YtdekhhimjnockaaDoorW.PrintLast Go.Proofs.YtdekhhimjnockaaDoorW.PrintMore
open Go.Proofs.YtdekhhimjnockaaDoor Go.Proofs.YtdekhhimjnockaaDoor.Vals Go.Proofs.YtdekhhimjnockaaDoor.Word Go.Proofs.YtdekhhimjnockaaDoor.Q Go.Proofs.YtdekhhimjnockaaDoor.S
set_option linter.unusedVariables false
set_option linter.unusedSimpArgs false

def exL : List S45 := [⟨true, 1, ⟨#[]⟩⟩, ⟨false, 0, ⟨#[97, 98]⟩⟩]
theorem ex_fine : (∀ p ∈ exL, mayP p = true) ∧ ∀ p ∈ exL, OkP p := by
  have h1 := fine_num (bs := [0, 0, 0, 0, 0, 0, 0, 1]) (by unfold Byte; decide) rfl
  have h2 := fine_text (s := [97, 98]) (by decide)
  constructor
  · intro p hp
    rcases List.mem_cons.1 hp with rfl | hp
    · exact h1.1
    · rcases List.mem_singleton.1 hp with rfl
      exact h2.1
  · intro p hp
    rcases List.mem_cons.1 hp with rfl | hp
    · exact h1.2
    · rcases List.mem_singleton.1 hp with rfl
      exact h2.2
theorem ex_key : strOfNums (enc exL) = ⟨#[1, 0, 0, 0, 0, 0, 0, 0, 1, 2, 97, 98, 0, 1]⟩ := by decide
theorem key_some {l : List S45} (h : ∀ p ∈ l, mayP p = true) : keyV l = .tuple #[.string (strOfNums (enc l)), .int .i64 0] := if_pos (List.all_eq_true.2 h)
theorem ex_read : readU ⟨#[1, 0, 0, 0, 0, 0, 0, 0, 1, 2, 97, 98, 0, 1]⟩ = some exL := by rw [← ex_key]; exact readU_enc ex_fine.1 ex_fine.2
theorem ex_reps (W : World) (base : Nat) : Reps (k45.M W base (fun _ => False)) 3 exL [.bool true, .int .u64 1, .string ⟨#[]⟩, .bool false, .int .u64 0, .string ⟨#[97, 98]⟩] :=
  Reps.snoc (Reps.snoc (Reps.none _ _) (k45_mkM W base _ ⟨true, 1, ⟨#[]⟩⟩) rfl) (k45_mkM W base _ ⟨false, 0, ⟨#[97, 98]⟩⟩) rfl
set_option maxHeartbeats 8000000 in
set_option maxRecDepth 100000 in
theorem awake_calls {w : World} (hm : MaxL w) : Calls Tryd.prog 7 #[] w (fun e w' => e = .returned (.bool true) ∧ Below w.heap.size w w') := by
  have HM := Aside0.mk hm
  clear hm
  go_enter Tryd.func7, Tryd.ntmps7
  go_wp2_with fail
  refine (tuple_Num.calls 1 true 1 ⟨#[]⟩ w rfl).mono ?_
  rintro en w1 ⟨rfl, hb⟩
  have HW1 := Aside0.mk hb
  clear hb
  go_wp2_with fail
  refine (tuple_Text.calls ⟨#[97, 98]⟩ false 0 ⟨#[97, 98]⟩ w1 rfl).mono ?_
  rintro en w2 ⟨rfl, hb⟩
  have HW2 := Aside0.mk (below_step HW1.out hb)
  clear hb HW1
  go_wp2_with (guard_target = wpList _ _ _ (Oper.mk _ (Op.buildSlice _ _ _) _ _ _ _ :: _) _ _; refine Kd.R_lit k45 (w0 := w) w.heap.size 45 rfl (N := 8) rfl (xs := exL) (inner := [.bool true, .int .u64 1, .string ⟨#[]⟩, .bool false, .int .u64 0, .string ⟨#[97, 98]⟩]) (ok := fun _ => True) (okp := fun _ => False) (by go_simp; rfl) (ex_reps _ _) (fun _ h => h.elim) trivial HW2.out HW2.out.size (by decide) ?_; intro v3 w3 ho hb hg hat; have HR3 := Aside0.mk ho; have HW3 := Aside0.mk hb; clear ho hb hg hat HW2; obtain ⟨A3, c3, rfl, hc3, hC3⟩ := Kd.R_reads HR3.out; have HC3 := Aside0.mk hC3; clear hc3 hC3 HR3)
  refine (key_calls HC3.out ex_fine.2 (by decide) (HM.out.below HW3.out)).mono ?_
  rintro en w4 ⟨rfl, hb⟩
  have HW4 := Aside0.mk (below_step HW3.out hb)
  clear hb HW3 HC3
  rw [key_some ex_fine.1, ex_key]
  go_wp2_with fail
  refine (read_calls _ (by decide) w4).mono ?_
  rintro en w5 ⟨v5, rfl, hR, hb⟩
  rw [ex_read] at hR ⊢
  have HW5 := Aside0.mk (below_step HW4.out hb)
  clear hb HW4
  obtain ⟨A5, c5, rfl, hc5, hC5⟩ := Kd.R_reads hR
  obtain ⟨ad, ep, p0, p1, p2⟩ := at_T45 hC5 1 (by decide) (by decide)
  have p3 : w5.cell? ⟨ad.block, ad.off + 3 + 2, none⟩ = some (.string ⟨#[97, 98]⟩) := p2
  clear hR hC5 p0 p1 p2
  cases ep
  go_wp2_with fail
  exact bodyPost_ret (v := .bool true) (by simp [results, Tryd.results7, go_sem]) rfl ⟨rfl, HW5.out⟩
end Go.Proofs.YtdekhhimjnockaaDoor.Tu
