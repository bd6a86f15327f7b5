/- A reader's Text. -/
import Derived.Test.YtceaddpbebaldaaWord5
namespace Go.Proofs.Ytceaddpbebaldaa.Word
open Go.RowKit Go.Proofs.YtceaddpbebaldaaW.PrintWords Go.Proofs.YtceaddpbebaldaaW.PrintLast Go.Proofs.YtceaddpbebaldaaW.PrintMore
open Go.Proofs.Ytceaddpbebaldaa Go.Proofs.Ytceaddpbebaldaa.Vals
set_option linter.unusedVariables false
set_option linter.unusedSimpArgs false

def TextPost (w : World) (g : Nat) (bs' : List Int) (e' : Int) (s : ByteArray) (en : Ending) (w' : World) : Prop :=
  en = .returned (.string s) ∧ Rd w' g bs' e' ∧ Keeps (fun k => k = g) w w'

theorem text_nobody (n m : Int) (w : World) : Calls Try.prog 20 #[.pointer none, .int .i64 n, .int .i64 m] w fun en w' => en = .returned (.string ByteArray.empty) ∧ w = w' := by
  go_enter Try.func20, Try.ntmps20
  go_wp2_with fail
  go_ret
  exact ⟨rfl, rfl⟩

theorem text_bad {w : World} {g : Nat} {bs : List Int} {e : Int} (h : Rd w g bs e) {n m : Int} (hn : n < 0 ∨ m < n) : Calls Try.prog 20 #[.pointer (some ⟨g, 0, none⟩), .int .i64 n, .int .i64 m] w (TextPost w g [] (if e = 0 then 2 else e) ByteArray.empty) := by
  have hs := spoil_calls h 2
  obtain ⟨e3, he3⟩ : ∃ e3, (if e = 0 then 2 else e) = e3 := ⟨_, rfl⟩
  rw [he3] at hs ⊢
  have HS := Aside0.mk hs
  clear hs he3 h
  by_cases h1 : n < 0
  · have d1 : decide (n < 0) = true := decide_eq_true h1
    go_enter Try.func20, Try.ntmps20
    go_wp2_with fail
    refine HS.out.mono ?_
    rintro en w1 ⟨⟨x, rfl⟩, hr, hk⟩
    have HR := Aside0.mk hr
    have HK := Aside0.mk hk
    clear hr hk
    go_wp2_with fail
    go_ret
    exact ⟨rfl, HR.out, HK.out⟩
  · have h2 : m < n := by omega
    have d1 : decide (n < 0) = false := decide_eq_false h1
    have d2 : decide (m < n) = true := decide_eq_true h2
    go_enter Try.func20, Try.ntmps20
    go_wp2_with fail
    refine HS.out.mono ?_
    rintro en w1 ⟨⟨x, rfl⟩, hr, hk⟩
    have HR := Aside0.mk hr
    have HK := Aside0.mk hk
    clear hr hk
    go_wp2_with fail
    go_ret
    exact ⟨rfl, HR.out, HK.out⟩

/-- What Text answers where n and most are right. -/
def textB (out bs' : List Int) (n m : Nat) : List Int := if out.length < m then bs' else if (out.drop n).any (fun c => c != 0) then [] else bs'
def textE (out : List Int) (e' : Int) (n m : Nat) : Int := if out.length < m then e' else if (out.drop n).any (fun c => c != 0) then (if e' = 0 then 3 else e') else e'
def textS (out : List Int) (n m : Nat) : ByteArray := if out.length < m then ByteArray.empty else if (out.drop n).any (fun c => c != 0) then ByteArray.empty else strOfNums (out.take n)

set_option maxHeartbeats 1000000 in
theorem text_ok {w : World} {g : Nat} {bs : List Int} {e : Int} (h : Rd w g bs e) {n m : Nat} (hn : n ≤ m) : Calls Try.prog 20 #[.pointer (some ⟨g, 0, none⟩), .int .i64 (n : Int), .int .i64 (m : Int)] w
    (TextPost w g (textB (rawO bs e m) (rawB bs e m) n m) (textE (rawO bs e m) (rawE bs e m) n m) (textS (rawO bs e m) n m)) := by
  have hol : (rawO bs e m).length ≤ 140737488351232 := by
    have := h.le
    unfold rawO
    repeat' split
    all_goals simp
    omega
  have hom : (rawO bs e m).length ≤ m := by
    have := rawO_len bs e m
    omega
  have HRAW := Aside0.mk (raw_calls h m)
  clear h
  generalize rawO bs e m = out at *
  generalize rawB bs e m = bs' at *
  generalize rawE bs e m = e' at *
  have d1 : decide ((n : Int) < 0) = false := decide_eq_false (by omega)
  have d2 : decide ((m : Int) < (n : Int)) = false := decide_eq_false (by omega)
  have d3 : decide (m < n) = false := decide_eq_false (by omega)
  unfold textB textE textS
  by_cases hs : out.length < m
  · rw [if_pos hs, if_pos hs, if_pos hs]
    have d4 : decide ((out.length : Int) < (m : Int)) = true := decide_eq_true (by omega)
    go_enter Try.func20, Try.ntmps20
    go_wp2_with fail
    refine HRAW.out.mono ?_
    rintro en w1 ⟨v, rfl, hI, hfar, hrd, hk⟩
    obtain ⟨A, c, rfl, hc, hC⟩ := hI
    have HR := Aside0.mk hrd
    have HK := Aside0.mk hk
    clear hrd hk hfar hC hc
    go_wp2_with fail
    go_ret
    exact ⟨rfl, HR.out, HK.out⟩
  · rw [if_neg hs, if_neg hs, if_neg hs]
    have d4 : decide ((out.length : Int) < (m : Int)) = false := decide_eq_false (by omega)
    have hnl : n ≤ out.length := by omega
    obtain ⟨i5, hi5⟩ : ∃ i5, Try.prog.info? 5 = some i5 := Option.isSome_iff_exists.1 (by rfl)
    have hz5 : i5.size = 1 := by
      have : (Try.prog.info? 5).map (·.size) = some 1 := by kernel_rfl
      rw [hi5] at this
      simpa using this
    have hdl : (out.drop n).length = out.length - n := List.length_drop
    have pre : ∀ (Q : List Int → Int → ByteArray → Prop), True := fun _ => trivial
    by_cases ha : (out.drop n).any (fun c => c != 0) = true
    · rw [if_pos ha, if_pos ha, if_pos ha]
      obtain ⟨e3, he3⟩ : ∃ e3, (if e' = 0 then 3 else e') = e3 := ⟨_, rfl⟩
      rw [he3]
      go_enter Try.func20, Try.ntmps20
      go_wp2_with fail
      refine HRAW.out.mono ?_
      rintro en w1 ⟨v, rfl, hI, hfar, hrd, hk⟩
      obtain ⟨A, c, rfl, hc, hC⟩ := hI
      have hcd := fun W => cut_drop (P := Try.prog) 22 5 Try.underlying22 hi5 .i64 A out.length c n hnl hc W
      rw [hz5] at hcd
      have hCD := Kd.C_drop (m := n) hC hnl hc
      rw [show (if c = n then A else A.map (·.add (n * (Kd.int .u8).sz))) = cutA A c n 1 from rfl] at hCD
      have hx := contains_text (bs := out.drop n) ⟨cutA A c n 1, c - n, by rw [hdl], by rw [hdl]; omega, hCD⟩ (by rw [hdl]; omega)
      rw [ha] at hx
      generalize cutA A c n 1 = A1 at hcd hCD hx
      have HX := Aside0.mk hx
      have HR := Aside0.mk hrd
      have HK := Aside0.mk hk
      clear hrd hk hfar hC hCD hx ha hi5 hz5
      go_wp2_with fail
      refine HX.out.mono ?_
      rintro en w' ⟨rfl, rfl⟩
      have hsp := spoil_calls HR.out 3
      rw [he3] at hsp
      clear he3
      go_wp2_with fail
      refine hsp.mono ?_
      clear hsp
      rintro en w2 ⟨⟨x, rfl⟩, hr2, hk2⟩
      have HR2 := Aside0.mk hr2
      have HK2 := Aside0.mk (HK.out.trans hk2)
      clear hr2 hk2
      go_wp2_with fail
      go_ret
      exact ⟨rfl, HR2.out, HK2.out⟩
    · rw [if_neg ha, if_neg ha, if_neg ha]
      go_enter Try.func20, Try.ntmps20
      go_wp2_with fail
      refine HRAW.out.mono ?_
      rintro en w1 ⟨v, rfl, hI, hfar, hrd, hk⟩
      obtain ⟨A, c, rfl, hc, hC⟩ := hI
      have hcd := fun W => cut_drop (P := Try.prog) 22 5 Try.underlying22 hi5 .i64 A out.length c n hnl hc W
      have hct := fun W => cut_take (P := Try.prog) 22 5 Try.underlying22 hi5 .i64 A out.length c n hnl hc W
      rw [hz5] at hcd
      have hCD := Kd.C_drop (m := n) hC hnl hc
      rw [show (if c = n then A else A.map (·.add (n * (Kd.int .u8).sz))) = cutA A c n 1 from rfl] at hCD
      have hx := contains_text (bs := out.drop n) ⟨cutA A c n 1, c - n, by rw [hdl], by rw [hdl]; omega, hCD⟩ (by rw [hdl]; omega)
      rw [(Bool.not_eq_true _).mp ha] at hx
      have htl : (out.take n).length = n := by rw [List.length_take]; omega
      have hCT := Kd.C_take hC hnl
      have hst := Kd.C_string (P := Try.prog) (src := 22) (dst := 9) (e := 5) (c := c) Try.underlying22 Try.underlying5 Try.underlying9 hCT
      rw [htl] at hst
      generalize cutA A c n 1 = A1 at hcd hCD hx
      have HX := Aside0.mk hx
      have HR := Aside0.mk hrd
      have HK := Aside0.mk hk
      clear hrd hk hfar hC hCD hx ha hi5 hz5 hCT htl
      go_wp2_with fail
      refine HX.out.mono ?_
      rintro en w' ⟨rfl, rfl⟩
      go_wp2_with fail
      go_ret
      exact ⟨rfl, HR.out, HK.out⟩
end Go.Proofs.Ytceaddpbebaldaa.Word
