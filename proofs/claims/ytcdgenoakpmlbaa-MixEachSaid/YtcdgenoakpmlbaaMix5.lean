/- The heap: down. -/
import Derived.Test.YtcdgenoakpmlbaaMix4
namespace Go.Proofs.Ytcdgenoakpmlbaa.Mix
open Go.RowKit Go.Proofs.YtcdgenoakpmlbaaW.PrintWords Go.Proofs.YtcdgenoakpmlbaaW.PrintLast Go.Proofs.YtcdgenoakpmlbaaW.PrintMore
open Go.Proofs.Ytcdgenoakpmlbaa Go.Proofs.Ytcdgenoakpmlbaa.Vals Go.Proofs.Ytcdgenoakpmlbaa.Q
set_option linter.unusedVariables false
set_option linter.unusedSimpArgs false

def zq : Qu := ⟨zc, []⟩
def g (qs : List Qu) (i : Nat) : Qu := qs.getD i zq
theorem g_is {qs : List Qu} {i : Nat} (h : i < qs.length) : g qs i = qs[i] := by unfold g; rw [List.getD_eq_getElem?_getD, List.getElem?_eq_getElem h]; rfl
def pickL (qs : List Qu) (i n : Nat) : Nat := if 2 * i + 2 < n ∧ lt (g qs (2 * i + 2)) (g qs (2 * i + 1)) = true then 2 * i + 2 else 2 * i + 1
/-- What down makes of the heap, and where it ends. -/
def downL : Nat → List Qu → Nat → Nat → List Qu × Nat
  | 0, qs, i, _ => (qs, i)
  | f + 1, qs, i, n => if 2 * i + 1 < n ∧ lt (g qs (pickL qs i n)) (g qs i) = true then downL f (swp qs i (pickL qs i n)) (pickL qs i n) n else (qs, i)
set_option maxHeartbeats 8000000 in
theorem down_calls {w0 : Gh} {w : World} {G F cap : Nat} {qs : List Qu} (h : Front w0 w G F cap qs) {i0 n : Nat} (hn : n ≤ qs.length) (hi : i0 ≤ 1000000) :
    Calls Try.prog 30 #[.iface 39 (.pointer (some ⟨G, 0, none⟩)), .int .i64 (i0 : Int), .int .i64 (n : Int)] w fun e w' => e = .returned (.bool (decide ((i0 : Int) < ((downL (n + 1) qs i0 n).2 : Int)))) ∧ Front w0 w' G F cap (downL (n + 1) qs i0 n).1 := by
  have HF := Aside0.mk h
  have HN := Aside0.mk hn
  have HI0 := Aside0.mk hi
  clear h hn hi
  go_enter Try.func30, Try.ntmps30
  go_wp2_with fail
  go_loopg [7, 8, 9, 10] (n + 1 - i0) (fun kq v7 v8 v9 v10 wx => ∃ (i f : Nat) (qq : List Qu), v7 = .int .i64 (i : Int) ∧ Aside0 (kq = n + 1 - i ∧ n ≤ qq.length ∧ n ≤ i + f ∧ i ≤ 1000000) ∧ Aside0 (Front w0 wx G F cap qq) ∧ Aside0 (downL (f + 1) qq i n = downL (n + 1) qs i0 n))
  case atStart => exact ⟨i0, n, qs, rfl, ⟨rfl, HN.out, by omega, HI0.out⟩, HF, ⟨rfl⟩⟩
  case round =>
    clear HF HN HI0
    obtain ⟨i, f, qq, rfl, HI, HF, HU⟩ := hrel
    have hfew := HF.out.few
    have hi1 := HI.out.2.2.2
    have hi2 := HI.out.2.1
    by_cases hb : 2 * i + 1 < n
    · have d1 : decide ((n : Int) ≤ 2 * (i : Int) + 1) = false := decide_eq_false (by omega)
      have d0 : decide (2 * (i : Int) + 1 < 0) = false := decide_eq_false (by omega)
      have e1 : ((2 * i + 1 : Nat) : Int) = 2 * (i : Int) + 1 := by omega
      have e2 : ((2 * i + 2 : Nat) : Int) = 2 * (i : Int) + 1 + 1 := by omega
      have hm := m_less G HF.out.cell
      by_cases h2 : 2 * i + 2 < n
      · have d2 : decide (2 * (i : Int) + 1 + 1 < (n : Int)) = true := decide_eq_true (by omega)
        have hl := HF.out.less (i := 2 * i + 2) (k := 2 * i + 1) (by omega) (by omega)
        rw [← g_is, ← g_is, e1, e2] at hl
        obtain ⟨lb, hlb⟩ : ∃ lb, lt (g qq (2 * i + 2)) (g qq (2 * i + 1)) = lb := ⟨_, rfl⟩
        rw [hlb] at hl
        have HL := Aside0.mk hl
        have HLB := Aside0.mk hlb
        have HBD := Aside0.mk (And.intro hb h2)
        have HE := Aside0.mk (And.intro e1 e2)
        clear hl hlb hb h2 e1 e2 hi2
        go_wp2_with fail
        refine HL.out.mono ?_
        rintro en w2 ⟨rfl, hbl⟩
        have HF2 := Aside0.mk (HF.out.mono hbl)
        clear hbl HF HL hm
        cases lb
        · have HP := Aside0.mk (show pickL qq i n = 2 * i + 1 by unfold pickL; rw [if_neg (fun h => by rw [HLB.out] at h; cases h.2)])
          clear HLB
          have hm := m_less G HF2.out.cell
          have HLT := Aside0.mk (show 2 * i + 1 < qq.length ∧ i < qq.length by have := HBD.out; have := HI.out; omega)
          have hl := HF2.out.less (i := 2 * i + 1) (k := i) HLT.out.1 HLT.out.2
          rw [← g_is, ← g_is, HE.out.1] at hl
          obtain ⟨lc, hlc⟩ : ∃ lc, lt (g qq (2 * i + 1)) (g qq i) = lc := ⟨_, rfl⟩
          rw [hlc] at hl
          have HL := Aside0.mk hl
          have HLC := Aside0.mk hlc
          clear hl hlc
          go_wp2_with fail
          refine HL.out.mono ?_
          rintro en w4 ⟨rfl, hbl⟩
          have HF4 := Aside0.mk (HF2.out.mono hbl)
          clear hbl HF2 HL hm
          cases lc
          · have HX := Aside0.mk (show downL (f + 1) qq i n = (qq, i) by rw [downL, HP.out, if_neg (fun h => by rw [HLC.out] at h; cases h.2)])
            clear HLC
            go_wp2_with fail
            go_ret
            rw [← HU.out, HX.out]
            exact ⟨by simp, HF4.out⟩
          · have HX := Aside0.mk (show downL (f + 1) qq i n = downL f (swp qq i (2 * i + 1)) (2 * i + 1) n by rw [downL, HP.out, if_pos ⟨HBD.out.1, HLC.out⟩])
            clear HLC
            have hm := m_swap G HF4.out.cell
            have hs := HF4.out.swap (i := i) (k := 2 * i + 1) HLT.out.2 HLT.out.1
            rw [HE.out.1] at hs
            have HS := Aside0.mk hs
            clear hs
            go_wp2_with fail
            refine HS.out.mono ?_
            rintro en w5 ⟨⟨u, rfl⟩, hf5⟩
            have HF5 := Aside0.mk hf5
            clear hf5 HS hm HF4
            go_wp2_with fail
            obtain ⟨f', rfl⟩ : ∃ f', f = f' + 1 := ⟨f - 1, by have := HBD.out; have := HI.out; omega⟩
            go_roundg (n + 1 - (2 * i + 1))
            case measure => have := HBD.out; have := HI.out; omega
            case rel => exact ⟨2 * i + 1, f', swp qq i (2 * i + 1), by rw [HE.out.1], ⟨rfl, by rw [swp_length]; exact HI.out.2.1, by have := HBD.out; have := HI.out; omega, by have := HBD.out; have := HI.out; omega⟩, HF5, ⟨by rw [← HU.out, HX.out]⟩⟩
        · have HP := Aside0.mk (show pickL qq i n = 2 * i + 2 by unfold pickL; rw [if_pos ⟨HBD.out.2, HLB.out⟩])
          clear HLB
          have hm := m_less G HF2.out.cell
          have HLT := Aside0.mk (show 2 * i + 2 < qq.length ∧ i < qq.length by have := HBD.out; have := HI.out; omega)
          have hl := HF2.out.less (i := 2 * i + 2) (k := i) HLT.out.1 HLT.out.2
          rw [← g_is, ← g_is, HE.out.2] at hl
          obtain ⟨lc, hlc⟩ : ∃ lc, lt (g qq (2 * i + 2)) (g qq i) = lc := ⟨_, rfl⟩
          rw [hlc] at hl
          have HL := Aside0.mk hl
          have HLC := Aside0.mk hlc
          clear hl hlc
          go_wp2_with fail
          refine HL.out.mono ?_
          rintro en w4 ⟨rfl, hbl⟩
          have HF4 := Aside0.mk (HF2.out.mono hbl)
          clear hbl HF2 HL hm
          cases lc
          · have HX := Aside0.mk (show downL (f + 1) qq i n = (qq, i) by rw [downL, HP.out, if_neg (fun h => by rw [HLC.out] at h; cases h.2)])
            clear HLC
            go_wp2_with fail
            go_ret
            rw [← HU.out, HX.out]
            exact ⟨by simp, HF4.out⟩
          · have HX := Aside0.mk (show downL (f + 1) qq i n = downL f (swp qq i (2 * i + 2)) (2 * i + 2) n by rw [downL, HP.out, if_pos ⟨HBD.out.1, HLC.out⟩])
            clear HLC
            have hm := m_swap G HF4.out.cell
            have hs := HF4.out.swap (i := i) (k := 2 * i + 2) HLT.out.2 HLT.out.1
            rw [HE.out.2] at hs
            have HS := Aside0.mk hs
            clear hs
            go_wp2_with fail
            refine HS.out.mono ?_
            rintro en w5 ⟨⟨u, rfl⟩, hf5⟩
            have HF5 := Aside0.mk hf5
            clear hf5 HS hm HF4
            go_wp2_with fail
            obtain ⟨f', rfl⟩ : ∃ f', f = f' + 1 := ⟨f - 1, by have := HBD.out; have := HI.out; omega⟩
            go_roundg (n + 1 - (2 * i + 2))
            case measure => have := HBD.out; have := HI.out; omega
            case rel => exact ⟨2 * i + 2, f', swp qq i (2 * i + 2), by rw [HE.out.2], ⟨rfl, by rw [swp_length]; exact HI.out.2.1, by have := HBD.out; have := HI.out; omega, by have := HBD.out; have := HI.out; omega⟩, HF5, ⟨by rw [← HU.out, HX.out]⟩⟩
      · have d2 : decide (2 * (i : Int) + 1 + 1 < (n : Int)) = false := decide_eq_false (by omega)
        have HP := Aside0.mk (show pickL qq i n = 2 * i + 1 by unfold pickL; rw [if_neg (fun h => h2 h.1)])
        have HBD := Aside0.mk (show 2 * i + 1 < n ∧ True from ⟨hb, trivial⟩)
        have HE := Aside0.mk (And.intro e1 e2)
        have HF2 := HF
        clear hb h2 e1 e2 hi2 hm HF
        have hm := m_less G HF2.out.cell
        have HLT := Aside0.mk (show 2 * i + 1 < qq.length ∧ i < qq.length by have := HBD.out; have := HI.out; omega)
        have hl := HF2.out.less (i := 2 * i + 1) (k := i) HLT.out.1 HLT.out.2
        rw [← g_is, ← g_is, HE.out.1] at hl
        obtain ⟨lc, hlc⟩ : ∃ lc, lt (g qq (2 * i + 1)) (g qq i) = lc := ⟨_, rfl⟩
        rw [hlc] at hl
        have HL := Aside0.mk hl
        have HLC := Aside0.mk hlc
        clear hl hlc
        go_wp2_with fail
        refine HL.out.mono ?_
        rintro en w4 ⟨rfl, hbl⟩
        have HF4 := Aside0.mk (HF2.out.mono hbl)
        clear hbl HF2 HL hm
        cases lc
        · have HX := Aside0.mk (show downL (f + 1) qq i n = (qq, i) by rw [downL, HP.out, if_neg (fun h => by rw [HLC.out] at h; cases h.2)])
          clear HLC
          go_wp2_with fail
          go_ret
          rw [← HU.out, HX.out]
          exact ⟨by simp, HF4.out⟩
        · have HX := Aside0.mk (show downL (f + 1) qq i n = downL f (swp qq i (2 * i + 1)) (2 * i + 1) n by rw [downL, HP.out, if_pos ⟨HBD.out.1, HLC.out⟩])
          clear HLC
          have hm := m_swap G HF4.out.cell
          have hs := HF4.out.swap (i := i) (k := 2 * i + 1) HLT.out.2 HLT.out.1
          rw [HE.out.1] at hs
          have HS := Aside0.mk hs
          clear hs
          go_wp2_with fail
          refine HS.out.mono ?_
          rintro en w5 ⟨⟨u, rfl⟩, hf5⟩
          have HF5 := Aside0.mk hf5
          clear hf5 HS hm HF4
          go_wp2_with fail
          obtain ⟨f', rfl⟩ : ∃ f', f = f' + 1 := ⟨f - 1, by have := HBD.out; have := HI.out; omega⟩
          go_roundg (n + 1 - (2 * i + 1))
          case measure => have := HBD.out; have := HI.out; omega
          case rel => exact ⟨2 * i + 1, f', swp qq i (2 * i + 1), by rw [HE.out.1], ⟨rfl, by rw [swp_length]; exact HI.out.2.1, by have := HBD.out; have := HI.out; omega, by have := HBD.out; have := HI.out; omega⟩, HF5, ⟨by rw [← HU.out, HX.out]⟩⟩
    · have d1 : decide ((n : Int) ≤ 2 * (i : Int) + 1) = true := decide_eq_true (by omega)
      have HE := Aside0.mk (show downL (f + 1) qq i n = (qq, i) by rw [downL, if_neg (fun h => hb h.1)])
      clear hb
      go_wp2_with fail
      go_ret
      rw [← HU.out, HE.out]
      exact ⟨by simp, HF.out⟩
end Go.Proofs.Ytcdgenoakpmlbaa.Mix
