/- WordReads: for few bytes. -/
import Derived.Test.YtceaddpbebaldaaWordReads
import Derived.Orders
import Derived.Test.YtceaddpbebaldaaRegC
namespace Go.Proofs.Ytceaddpbebaldaa.Word
open Go.RowKit Go.Proofs.YtceaddpbebaldaaW.PrintWords Go.Proofs.YtceaddpbebaldaaW.PrintLast Go.Proofs.YtceaddpbebaldaaW.PrintMore
open Go.Proofs.Ytceaddpbebaldaa Go.Proofs.Ytceaddpbebaldaa.Vals
set_option linter.unusedVariables false
set_option linter.unusedSimpArgs false

theorem Rd.noByte {w : World} {g : Nat} {bs : List Int} {e : Int} (h : Rd w g bs e) : NoByte w g := by
  obtain ⟨v, h1, ⟨A, c, rfl, _, _⟩, _⟩ := h.ex
  exact NoByte.pair h1
theorem Rd.far {w w' : World} {g : Nat} {bs : List Int} {e : Int} {Q : Nat → Prop} (h : Rd w g bs e) (hk : Keeps Q w w') (hq : ∀ k, Q k → NoByte w k ∧ k ≠ g) : Rd w' g bs e := by
  obtain ⟨v, h1, h2, h3⟩ := h.ex
  exact ⟨⟨v, hk.blk h1 (fun h => (hq g h).2 rfl), Bys.far h2 hk (fun k h => (hq k h).1), h3⟩, h.le⟩
theorem NoByte.below {w w' : World} {k : Nat} (h : NoByte w k) (hb : Below w.heap.size w w') : NoByte w' k := by
  obtain ⟨cs, t, fr, h1, h2⟩ := h
  exact ⟨cs, t, fr, blk_below h1 hb, h2⟩
/-- The reference's reader is given its new value. -/
theorem upd {w : World} {S g : Nat} {A A2 : Option Addr} {c c2 : Nat} {bs l : List Int} {e e2 : Int} {t : TypeId} (hS : w.heap[S]? = some (.cells #[.slice A bs.length c, .int .i64 e] t (0, 0))) (hR : Rd w g bs e) (hg : S ≠ g) (hn : Bys l (.slice A2 l.length c2) w) :
    Rd ((w.setCell ⟨S, 0, none⟩ (.slice A2 l.length c2)).setCell ⟨S, 1, none⟩ (.int .i64 e2)) g bs e ∧ ((w.setCell ⟨S, 0, none⟩ (.slice A2 l.length c2)).setCell ⟨S, 1, none⟩ (.int .i64 e2)).heap[S]? = some (.cells #[.slice A2 l.length c2, .int .i64 e2] t (0, 0)) ∧
    Bys l (.slice A2 l.length c2) ((w.setCell ⟨S, 0, none⟩ (.slice A2 l.length c2)).setCell ⟨S, 1, none⟩ (.int .i64 e2)) ∧ Keeps (fun k => k = S) w ((w.setCell ⟨S, 0, none⟩ (.slice A2 l.length c2)).setCell ⟨S, 1, none⟩ (.int .i64 e2)) := by
  have hw := box_put hS (.slice A2 l.length c2) (.int .i64 e2)
  exact ⟨Rd.far hR hw.2 (fun k h => by subst h; exact ⟨NoByte.pair hS, hg⟩), hw.1, Bys.far hn hw.2 (fun k h => by subst h; exact NoByte.pair hS), hw.2⟩
theorem left_below {w : World} {g : Nat} {bs : List Int} {e : Int} (h : Rd w g bs e) : Calls Try.prog 23 #[.pointer (some ⟨g, 0, none⟩)] w fun en w' => en = .returned (.int .i64 (bs.length : Int)) ∧ Below w.heap.size w w' :=
  (left_calls h).mono fun _ _ h => ⟨h.1, h.2 ▸ Below.refl _ _⟩
theorem err_below {w : World} {g : Nat} {bs : List Int} {e : Int} (h : Rd w g bs e) : Calls Try.prog 24 #[.pointer (some ⟨g, 0, none⟩)] w fun en w' => en = .returned (.int .i64 e) ∧ Below w.heap.size w w' :=
  (err_calls h).mono fun _ _ h => ⟨h.1, h.2 ▸ Below.refl _ _⟩
theorem end_below {w : World} {g : Nat} {bs : List Int} {e : Int} (h : Rd w g bs e) : Calls Try.prog 15 #[.pointer (some ⟨g, 0, none⟩)] w fun en w' => en = .returned (.int .i64 (if e = 0 then (if bs = [] then 0 else 6) else e)) ∧ Below w.heap.size w w' :=
  (end_calls h).mono fun _ _ h => ⟨h.1, h.2 ▸ Below.refl _ _⟩
/-- All that a round leaves. -/
structure After (w0 : World) (S g : Nat) (t : TypeId) (bs : List Int) (e : Int) (A : Option Addr) (c : Nat) (w : World) : Prop where
  rd : Rd w g bs e
  st : w.heap[S]? = some (.cells #[.slice A bs.length c, .int .i64 e] t (0, 0))
  by_ : Bys bs (.slice A bs.length c) w
  below : Below w0.heap.size w0 w
theorem after_call {w0 w6 w7 : World} {S g : Nat} {t : TypeId} {A : Option Addr} {c : Nat} {l : List Int} {e2 : Int} (hb : Below w0.heap.size w0 w6) (hg : w0.heap.size ≤ g) (hSg : S ≠ g) (hn : NoByte w6 g)
    (hS : w6.heap[S]? = some (.cells #[.slice A l.length c, .int .i64 e2] t (0, 0))) (hl : Bys l (.slice A l.length c) w6) (hR : Rd w7 g l e2) (hk : Keeps (fun k => k = g) w6 w7) : After w0 S g t l e2 A c w7 :=
  ⟨hR, hk.blk hS hSg, Bys.far hl hk (fun k h => by subst h; exact hn), Keeps.below_then hb (Nat.le_refl _) hk (fun i hi => by have : i = g := hi; omega)⟩
theorem leafA {w w5 : World} {l : List Int} {A : Option Addr} {c : Nat} {e : Int} {t : TypeId} (hz : w5.heap[w.heap.size]? = some (.cells #[.slice none 0 0, .int .i64 0] t (0, 0))) (hb : Below w.heap.size w w5) (hn : Bys l (.slice A l.length c) w5) :
    w.heap.size ≤ w.heap.size ∧ ((w5.setCell ⟨w.heap.size, 0, none⟩ (.slice A l.length c)).setCell ⟨w.heap.size, 1, none⟩ (.int .i64 e)).heap[w.heap.size]? = some (.cells #[.slice A l.length c, .int .i64 e] t (0, 0)) ∧
    Bys l (.slice A l.length c) ((w5.setCell ⟨w.heap.size, 0, none⟩ (.slice A l.length c)).setCell ⟨w.heap.size, 1, none⟩ (.int .i64 e)) ∧ Below w.heap.size w ((w5.setCell ⟨w.heap.size, 0, none⟩ (.slice A l.length c)).setCell ⟨w.heap.size, 1, none⟩ (.int .i64 e)) := by
  have hw := box_put hz (.slice A l.length c) (.int .i64 e)
  exact ⟨Nat.le_refl _, hw.1, Bys.far hn hw.2 (fun k h => by subst h; exact NoByte.pair hz), Keeps.below_then hb (Nat.le_refl _) hw.2 (fun i hi => Nat.le_of_eq hi.symm)⟩
theorem leafT {w w5 : World} {l : List Int} {A : Option Addr} {c k : Nat} {e : Int} {t : TypeId} (hz : w5.heap[k]? = some (.cells #[.slice none 0 0, .int .i64 0] t (0, 0))) (hk : w.heap.size ≤ k) (hb : Below w.heap.size w w5) (hn : Bys l (.slice A l.length c) w5) :
    w.heap.size ≤ k ∧ ((w5.setCell ⟨k, 0, none⟩ (.slice A l.length c)).setCell ⟨k, 1, none⟩ (.int .i64 e)).heap[k]? = some (.cells #[.slice A l.length c, .int .i64 e] t (0, 0)) ∧
    Bys l (.slice A l.length c) ((w5.setCell ⟨k, 0, none⟩ (.slice A l.length c)).setCell ⟨k, 1, none⟩ (.int .i64 e)) ∧ Below w.heap.size w ((w5.setCell ⟨k, 0, none⟩ (.slice A l.length c)).setCell ⟨k, 1, none⟩ (.int .i64 e)) := by
  have hw := box_put hz (.slice A l.length c) (.int .i64 e)
  exact ⟨hk, hw.1, Bys.far hn hw.2 (fun k h => by subst h; exact NoByte.pair hz), Keeps.below_then hb (Nat.le_refl _) hw.2 (fun i hi => by have : i = k := hi; omega)⟩
theorem leafB {w w5 : World} {l : List Int} {A : Option Addr} {c : Nat} {e : Int} {t : TypeId} (hb : Below w.heap.size w w5) (hn : Bys l (.slice A l.length c) w5) :
    w.heap.size ≤ w5.heap.size ∧ (w5.alloc (.cells #[.slice A l.length c, .int .i64 e] t)).heap[w5.heap.size]? = some (.cells #[.slice A l.length c, .int .i64 e] t (0, 0)) ∧
    Bys l (.slice A l.length c) (w5.alloc (.cells #[.slice A l.length c, .int .i64 e] t)) ∧ Below w.heap.size w (w5.alloc (.cells #[.slice A l.length c, .int .i64 e] t)) :=
  ⟨hb.size, blk_new _ _, hn.mono (below_alloc (Below.refl _ _) _), below_alloc hb _⟩

set_option maxHeartbeats 40000000 in
set_option maxRecDepth 100000 in
theorem reads_short {w : World} {v : Value} {bs : List Int} (h : Bys bs v w) (hs : Sound bs 0) (A1 : Option Addr) (c1 : Nat) (l : List (Int × Int × Int)) (hD : Kd.C kAct w A1 l.length l) (hd : l.length ≤ c1) :
    Calls Try.prog 6 #[v, .slice A1 l.length c1] w fun e w' => e = .returned (.bool true) ∧ Below w.heap.size w w' := by
  have hle := hs.2.1
  have HOP := Aside0.mk (open_calls h (by omega))
  obtain ⟨A, c, rfl, hc, hC⟩ := h
  have HC := Aside0.mk hC
  have HL := Aside0.mk hD
  have HS := Aside0.mk hs
  have d1 : decide ((3000 : Int) < (bs.length : Int)) = false := decide_eq_false (by omega)
  have d2 : decide (3000 < bs.length) = false := decide_eq_false (by omega)
  clear hC hD hs
  go_enter Try.func6, Try.ntmps6
  go_wp2_with fail
  refine HOP.out.mono ?_
  rintro en w2 ⟨g, rfl, hr, hb, hg⟩
  have HR := Aside0.mk hr
  have HB := Aside0.mk hb
  have HG := Aside0.mk hg
  have HI := Aside0.mk (show Bys bs (.slice A bs.length c) w2 from IsL.mk hc (Kd.C_below HC.out hb))
  have HGL := Aside0.mk hr.lt
  clear hr hb hg HC HOP
  go_wp2_with (first | (at_builtin; refine Kd.R_append_rows (Kd.int .u8) (w0 := w2) w2.heap.size rfl (.tmp 23) (.tmp 24) 22 5 (.int .u8 0) 1 rfl Try.underlying22 info_byte rfl (by decide) (by omega) _ [] bs _ _ _ (fun _ => True) (fun _ => False) rfl rfl ?aO ?aR (fun _ _ h => h) (fun _ h => h.elim) (fun _ _ => trivial) ?aB ?aS ?aL ?_; rotate_right; intro v1 w3 ho hb hg hat; obtain ⟨A6, c6, rfl, hc6, hC6⟩ := Kd.R_reads ho))
  case aO => exact R_empty _ _ _ _ (Nat.le_refl _)
  case aR => obtain ⟨A', c', h1, h2, h3⟩ := (HI.out.mono (below_alloc (Below.refl _ _) (.cells #[] 5))).out; cases h1; exact h3
  case aB => exact below_alloc (Below.refl _ _) _
  case aS => simp
  case aL => simp; omega
  rw [List.nil_append] at hC6 hc6
  have HI6 := Aside0.mk (show Bys bs (.slice A6 bs.length c6) w3 from ⟨A6, c6, rfl, hc6, hC6⟩)
  have HR3 := Aside0.mk (HR.out.below hb)
  have HB3 := Aside0.mk (below_step HB.out hb)
  have HG3 := Aside0.mk (Nat.lt_of_lt_of_le HGL.out hb.size)
  clear ho hb hg hat hc6 hC6 HR HB HI HGL hc
  obtain ⟨S, hS⟩ : ∃ S, w3.heap.size = S := ⟨_, rfl⟩
  have hst := blk_new w3 (.cells #[.slice A6 bs.length c6, .int .i64 0] 41)
  have HRX := Aside0.mk (HR3.out.below (below_alloc (Below.refl _ _) (.cells #[.slice A6 bs.length c6, .int .i64 0] 41)))
  have HIX := Aside0.mk (HI6.out.mono (below_alloc (Below.refl _ _) (.cells #[.slice A6 bs.length c6, .int .i64 0] 41)))
  have HBX := Aside0.mk (below_alloc HB3.out (.cells #[.slice A6 bs.length c6, .int .i64 0] 41))
  have hws := HB3.out.size
  rw [hS] at hst hws
  have HSX := Aside0.mk hst
  have HWS := Aside0.mk (show w.heap.size ≤ S ∧ w.heap.size ≤ g ∧ g < S from ⟨hws, HG.out, by have := HG3.out; omega⟩)
  clear hst hws HR3 HI6 HB3 HG3 HG
  generalize w3.alloc (.cells #[.slice A6 bs.length c6, .int .i64 0] 41) = w4 at HRX HIX HBX HSX ⊢
  rw [hS]
  clear hS
  go_loopg [7] 61 (fun kq v7 wx => ∃ (i : Nat) (bs : List Int) (e : Int) (A : Option Addr) (c : Nat), v7 = .int .i64 (i : Int) ∧ Aside0 (kq = 61 - i ∧ i ≤ 60) ∧ Aside0 (Sound bs e) ∧ Aside0 (Rd wx g bs e) ∧ Aside0 (wx.heap[S]? = some (.cells #[.slice A bs.length c, .int .i64 e] 41 (0, 0))) ∧ Aside0 (Bys bs (.slice A bs.length c) wx) ∧ Aside0 (Below w.heap.size w wx))
  case atStart => exact ⟨0, bs, 0, A6, c6, rfl, ⟨rfl, by omega⟩, HS, HRX, HSX, HIX, HBX⟩
  case round =>
    clear HRX HSX HIX HBX HS hle d1 d2
    obtain ⟨i, bs, e, Ab, cb, rfl, HI0, HS, HR, HST, HI, HB⟩ := hrel
    go_upto_region 8 with fail
    go_cut [34] from 27 to 159 (fun v34 wx => v34 = .bool (decide (i < l.length ∧ i < 60)) ∧ wx = wr)
    case first =>
      by_cases p1 : i < l.length
      · have g1 : decide ((i : Int) < (l.length : Int)) = true := decide_eq_true (by omega)
        by_cases p2 : i < 60
        · have g2 : decide ((i : Int) < 60) = true := decide_eq_true (by omega)
          go_wp2_with fail
          go_meet
          case rel => exact ⟨by rw [decide_eq_true (show i < l.length ∧ i < 60 from ⟨p1, p2⟩)], rfl⟩
        · have g2 : decide ((i : Int) < 60) = false := decide_eq_false (by omega)
          go_wp2_with fail
          go_meet
          case rel => exact ⟨by rw [decide_eq_false (show ¬ (i < l.length ∧ i < 60) from by omega)], rfl⟩
      · have g1 : decide ((i : Int) < (l.length : Int)) = false := decide_eq_false (by omega)
        go_wp2_with fail
        go_meet
        case rel => exact ⟨by rw [decide_eq_false (show ¬ (i < l.length ∧ i < 60) from by omega)], rfl⟩
    case rest =>
      obtain ⟨rfl, hw⟩ := hcut
      subst hw
      by_cases hgo : i < l.length ∧ i < 60
      rotate_left
      · rw [decide_eq_false hgo]
        clear hgo
        go_wp2_with fail
        refine (awake_calls _).mono ?_
        rintro en w5 ⟨rfl, hb⟩
        have HB5 := Aside0.mk (below_step HB.out hb)
        clear hb
        go_wp2_with fail
        go_ret
        exact ⟨by simp, HB5.out⟩
      · rw [decide_eq_true hgo]
        obtain ⟨hi, h60⟩ := hgo
        have hi' : (i : Int) < (l.length : Int) := by omega
        obtain ⟨ad, rfl, ca, cn, cm⟩ := act_at (HL.out) hi hi
        have HCN := Aside0.mk cn
        have HCM := Aside0.mk cm
        have ca := (HB.out.cell (World.block_lt_of_cell? w _ ca)).trans ca
        obtain ⟨kind, hkind⟩ : ∃ kind, (l[i]).1 = kind := ⟨_, rfl⟩
        obtain ⟨n, hn⟩ : ∃ n, (l[i]).2.1 = n := ⟨_, rfl⟩
        obtain ⟨m, hm⟩ : ∃ m, (l[i]).2.2 = m := ⟨_, rfl⟩
        rw [hkind] at ca
        rw [hn] at cn HCN
        rw [hm] at cm HCM
        clear hkind hn hm cn cm
        go_upto_block 2 with fail
        go_cut [8, 9, 10, 11, 12, 13, 14] from 27 to 159 (fun v8 v9 v10 v11 v12 v13 v14 wx => v8 = .bool true ∧ ∃ (bs' : List Int) (e' : Int) (A' : Option Addr) (c' : Nat), Aside0 (Sound bs' e') ∧ Aside0 (Rd wx g bs' e') ∧ Aside0 (wx.heap[S]? = some (.cells #[.slice A' bs'.length c', .int .i64 e'] 41 (0, 0))) ∧ Aside0 (Bys bs' (.slice A' bs'.length c') wx) ∧ Aside0 (Below w.heap.size w wx))
        case first =>
          have cn := (HB.out.cell (World.block_lt_of_cell? w _ HCN.out)).trans HCN.out
          have cm := (HB.out.cell (World.block_lt_of_cell? w _ HCM.out)).trans HCM.out
          have hlt := World.block_lt_of_cell? w _ HCN.out
          have n1 : (ad.add (i * 3)).block ≠ wc.heap.size := by have := HB.out.size; have h2 : (ad.add (i * 3)).block < w.heap.size := hlt; omega
          have n2 : S ≠ wc.heap.size := Nat.ne_of_lt (blk_lt HST.out)
          have k0 := (blk_cell HST.out 0).trans rfl
          have k1 := (blk_cell HST.out 1).trans rfl
          have B1 := Aside0.mk (show Below wc.heap.size wc wc.drew from pw_below_drewN (Below.refl _ _) 1)
          have B2 := Aside0.mk (show Below wc.heap.size wc (wc.drew.alloc (.cells #[.slice none 0 0, .int .i64 0] 41)) from below_alloc (pw_below_drewN (Below.refl _ _) 1) _)
          have cnB := ((below_alloc (Below.refl wc.heap.size wc) (.cells #[.slice none 0 0, .int .i64 0] 41)).cell (World.block_lt_of_cell? wc _ cn)).trans cn
          have cmB := ((below_alloc (Below.refl wc.heap.size wc) (.cells #[.slice none 0 0, .int .i64 0] 41)).cell (World.block_lt_of_cell? wc _ cm)).trans cm
          have kB0 := ((below_alloc (Below.refl wc.heap.size wc) (.cells #[.slice none 0 0, .int .i64 0] 41)).cell (World.block_lt_of_cell? wc _ k0)).trans k0
          have kB1 := ((below_alloc (Below.refl wc.heap.size wc) (.cells #[.slice none 0 0, .int .i64 0] 41)).cell (World.block_lt_of_cell? wc _ k1)).trans k1
          clear hlt
          by_cases q0 : kind = 0
          · subst q0
            as_aux_lemma =>
              go_upto_region 13 with fail
              go_cut [9, 10] from 27 to 159 (fun v9 v10 wx => ∃ (k : Nat) (A : Option Addr) (c : Nat), v9 = .pointer (some ⟨k, 0, none⟩) ∧ v10 = .int .u64 (numV bs e n) ∧ Aside0 (wc.heap.size ≤ k ∧ wx.heap[k]? = some (.cells #[.slice A (numB bs e n).length c, .int .i64 (numE bs e n)] 41 (0, 0)) ∧ Bys (numB bs e n) (.slice A (numB bs e n).length c) wx ∧ Below wc.heap.size wc wx))
              case first =>
                refine Reg.region_store 11 10 8 [9] (fun v1 v2 w w' => ∃ (k : Nat) (A5 : Option Addr) (c5 : Nat), v1 = .pointer (some ⟨k, 0, none⟩) ∧ v2 = .agg #[.slice A5 (numB bs e n).length c5, .int .i64 (numE bs e n)] ∧ w' = (w.setCell ⟨k, 0, none⟩ (.slice A5 (numB bs e n).length c5)).setCell ⟨k, 1, none⟩ (.int .i64 (numE bs e n))) [Reg.Is (.agg #[.slice Ab bs.length cb, .int .i64 e]), Reg.Is (.slice (some ad) l.length c1), Reg.Is (.int .i64 (i : Int)), Reg.Is (.pointer (some (ad.add (i * 3)))), Reg.Is (.pointer (some ((ad.add (i * 3)).add 1))), Reg.Is (.int .i64 n), (fun v w => ∃ (A5 : Option Addr) (c5 : Nat), v = .tuple #[.agg #[.slice A5 (numB bs e n).length c5, .int .i64 (numE bs e n)], .int .u64 (numV bs e n)] ∧ Bys (numB bs e n) (.slice A5 (numB bs e n).length c5) w), (fun v w => ∃ (A5 : Option Addr) (c5 : Nat), v = .tuple #[.agg #[.slice A5 (numB bs e n).length c5, .int .i64 (numE bs e n)], .int .u64 (numV bs e n)] ∧ Bys (numB bs e n) (.slice A5 (numB bs e n).length c5) w), (fun v w => ∃ (A5 : Option Addr) (c5 : Nat), v = .agg #[.slice A5 (numB bs e n).length c5, .int .i64 (numE bs e n)] ∧ Bys (numB bs e n) (.slice A5 (numB bs e n).length c5) w), Reg.Is (.int .u64 (numV bs e n)), (fun v w => ∃ k, v = .pointer (some ⟨k, 0, none⟩) ∧ wc.heap.size ≤ k ∧ w.heap[k]? = some (.cells #[.slice none 0 0, .int .i64 0] 41 (0, 0)))]
                    [some 45, some 46, some 47, some 48, some 49, some 50, some 51, some 44, some 52, some 53, some 9] (by kernel_rfl) (by rfl) (by rfl) (by rfl) (by rfl) rfl (by kernel_rfl) (by kernel_rfl) (by kernel_rfl) ⟨Reg.mono_is _, Reg.mono_is _, Reg.mono_is _, Reg.mono_is _, Reg.mono_is _, Reg.mono_is _, (fun v w w' ⟨A5, c5, h1, h2⟩ hb => ⟨A5, c5, h1, h2.mono hb⟩), (fun v w w' ⟨A5, c5, h1, h2⟩ hb => ⟨A5, c5, h1, h2.mono hb⟩), (fun v w w' ⟨A5, c5, h1, h2⟩ hb => ⟨A5, c5, h1, h2.mono hb⟩), Reg.mono_is _, (fun v w w' ⟨k, h1, h2, h3⟩ hb => ⟨k, h1, h2, blk_below h3 hb⟩), trivial⟩ (Reg.noneOkN_of (by rfl)) ⟨?_, ?_, ?_, ?_, ?_, ?_, ?_, ?_, ?_, ?_, ?_, trivial⟩ ?_ ?_ ?_
                · intro a w hl   -- 0: slot 45
                  have q6 : a.eval (.tmp 6) = .pointer (some ⟨S, 0, none⟩) := hl.out 6 rfl
                  have qc : ∀ x, a.eval (.const x) = x := fun _ => rfl
                  refine Reg.does_is (x := .agg #[.slice Ab bs.length cb, .int .i64 e]) rfl rfl ?_
                  have hst := blk_below HST.out hl.below
                  have k0 := (blk_cell hst 0).trans rfl
                  have k1 := (blk_cell hst 1).trans rfl
                  clear hl hst
                  generalize a.eval = ρ at *
                  go_simp
                · intro a w hl   -- 1: slot 46
                  have q1 : a.eval (.tmp 1) = .slice (some ad) l.length c1 := hl.out 1 rfl
                  have qc : ∀ x, a.eval (.const x) = x := fun _ => rfl
                  refine Reg.does_is (x := .slice (some ad) l.length c1) rfl rfl ?_
                  clear hl
                  generalize a.eval = ρ at *
                  go_simp
                · intro a w hl   -- 2: slot 47
                  have q7 : a.eval (.tmp 7) = .int .i64 (i : Int) := hl.out 7 rfl
                  have qc : ∀ x, a.eval (.const x) = x := fun _ => rfl
                  refine Reg.does_is (x := .int .i64 (i : Int)) rfl rfl ?_
                  clear hl
                  generalize a.eval = ρ at *
                  go_simp
                · intro a w hl   -- 3: slot 48
                  have q46 : a.eval (.tmp 46) = .slice (some ad) l.length c1 := hl.has 1 rfl
                  have q47 : a.eval (.tmp 47) = .int .i64 (i : Int) := hl.has 2 rfl
                  have qc : ∀ x, a.eval (.const x) = x := fun _ => rfl
                  refine Reg.does_is (x := .pointer (some (ad.add (i * 3)))) rfl rfl ?_
                  clear hl
                  generalize a.eval = ρ at *
                  go_simp
                · intro a w hl   -- 4: slot 49
                  have q48 : a.eval (.tmp 48) = .pointer (some (ad.add (i * 3))) := hl.has 3 rfl
                  have qc : ∀ x, a.eval (.const x) = x := fun _ => rfl
                  refine Reg.does_is (x := .pointer (some ((ad.add (i * 3)).add 1))) rfl rfl ?_
                  clear hl
                  generalize a.eval = ρ at *
                  go_simp
                · intro a w hl   -- 5: slot 50
                  have q49 : a.eval (.tmp 49) = .pointer (some ((ad.add (i * 3)).add 1)) := hl.has 4 rfl
                  have qc : ∀ x, a.eval (.const x) = x := fun _ => rfl
                  refine Reg.does_is (x := .int .i64 n) rfl rfl ?_
                  have cn := (hl.below.cell (World.block_lt_of_cell? wc _ cn)).trans cn
                  have cm := (hl.below.cell (World.block_lt_of_cell? wc _ cm)).trans cm
                  clear hl
                  generalize a.eval = ρ at *
                  go_simp
                · intro a w hl   -- 6: slot 51
                  have q45 : a.eval (.tmp 45) = .agg #[.slice Ab bs.length cb, .int .i64 e] := hl.has 0 rfl
                  have q50 : a.eval (.tmp 50) = .int .i64 n := hl.has 5 rfl
                  have qc : ∀ x, a.eval (.const x) = x := fun _ => rfl
                  refine Reg.does_call_p (p := fun v w => ∃ (A5 : Option Addr) (c5 : Nat), v = .tuple #[.agg #[.slice A5 (numB bs e n).length c5, .int .i64 (numE bs e n)], .int .u64 (numV bs e n)] ∧ Bys (numB bs e n) (.slice A5 (numB bs e n).length c5) w) #[.agg #[.slice Ab bs.length cb, .int .i64 e], .int .i64 n] rfl rfl Try.func16 (by kernel_rfl) rfl rfl (by simp [qc, q45, q50]) ?_
                  refine (rnum_any (HI.out.mono hl.below) HS.out n).mono ?_
                  rintro en w5 ⟨v5, rfl, ⟨A5, c5, rfl, hc5, hC5⟩, hb⟩
                  exact ⟨_, rfl, ⟨A5, c5, rfl, ⟨A5, c5, rfl, hc5, hC5⟩⟩, hb⟩
                · intro a w hl   -- 7: slot 44
                  have q51 : (fun v w => ∃ (A5 : Option Addr) (c5 : Nat), v = .tuple #[.agg #[.slice A5 (numB bs e n).length c5, .int .i64 (numE bs e n)], .int .u64 (numV bs e n)] ∧ Bys (numB bs e n) (.slice A5 (numB bs e n).length c5) w) (a.eval (.tmp 51)) w := hl.has 6 rfl
                  obtain ⟨A5, c5, ev, h5⟩ := q51
                  have qc : ∀ x, a.eval (.const x) = x := fun _ => rfl
                  refine Reg.does_new (x := .tuple #[.agg #[.slice A5 (numB bs e n).length c5, .int .i64 (numE bs e n)], .int .u64 (numV bs e n)]) rfl rfl ?_ ⟨A5, c5, rfl, h5⟩ (Below.refl _ _)
                  clear hl
                  generalize a.eval = ρ at *
                  go_simp
                · intro a w hl   -- 8: slot 52
                  have q44 : (fun v w => ∃ (A5 : Option Addr) (c5 : Nat), v = .tuple #[.agg #[.slice A5 (numB bs e n).length c5, .int .i64 (numE bs e n)], .int .u64 (numV bs e n)] ∧ Bys (numB bs e n) (.slice A5 (numB bs e n).length c5) w) (a.eval (.tmp 44)) w := hl.has 7 rfl
                  obtain ⟨A5, c5, ev, h5⟩ := q44
                  have qc : ∀ x, a.eval (.const x) = x := fun _ => rfl
                  refine Reg.does_new (x := .agg #[.slice A5 (numB bs e n).length c5, .int .i64 (numE bs e n)]) rfl rfl ?_ ⟨A5, c5, rfl, h5⟩ (Below.refl _ _)
                  clear hl
                  generalize a.eval = ρ at *
                  go_simp
                · intro a w hl   -- 9: slot 53
                  have q44 : (fun v w => ∃ (A5 : Option Addr) (c5 : Nat), v = .tuple #[.agg #[.slice A5 (numB bs e n).length c5, .int .i64 (numE bs e n)], .int .u64 (numV bs e n)] ∧ Bys (numB bs e n) (.slice A5 (numB bs e n).length c5) w) (a.eval (.tmp 44)) w := hl.has 7 rfl
                  obtain ⟨A5, c5, ev, h5⟩ := q44
                  have qc : ∀ x, a.eval (.const x) = x := fun _ => rfl
                  refine Reg.does_is (x := .int .u64 (numV bs e n)) rfl rfl ?_
                  clear hl
                  generalize a.eval = ρ at *
                  go_simp
                · intro a w hl   -- 10: slot 9
                  refine Reg.does_new (x := .pointer (some ⟨w.heap.size, 0, none⟩)) (w' := w.alloc (.cells #[.slice none 0 0, .int .i64 0] 41)) rfl rfl ?_ ⟨_, rfl, hl.below.size, blk_new _ _⟩ (below_alloc (Below.refl _ _) _)
                  clear hl
                  generalize a.eval = ρ at *
                  go_simp
                · intro i hi   -- the free ones
                  simp only [List.mem_cons, List.not_mem_nil, or_false] at hi
                  rcases hi with rfl
                  · intro o ho a w hl
                    cases ho
                    have q44 : (fun v w => ∃ (A5 : Option Addr) (c5 : Nat), v = .tuple #[.agg #[.slice A5 (numB bs e n).length c5, .int .i64 (numE bs e n)], .int .u64 (numV bs e n)] ∧ Bys (numB bs e n) (.slice A5 (numB bs e n).length c5) w) (a.eval (.tmp 44)) w := hl.has 7 rfl
                    obtain ⟨A5, c5, ev, h5⟩ := q44
                    refine ⟨rfl, .int .u64 (numV bs e n), rfl, fun w2 => ?_⟩
                    clear hl
                    generalize a.eval = ρ at *
                    go_simp
                · intro a w hl   -- the store
                  have q9 : (fun v w => ∃ k, v = .pointer (some ⟨k, 0, none⟩) ∧ wc.heap.size ≤ k ∧ w.heap[k]? = some (.cells #[.slice none 0 0, .int .i64 0] 41 (0, 0))) (a.eval (.tmp 9)) w := hl.has 10 rfl
                  have q52 : (fun v w => ∃ (A5 : Option Addr) (c5 : Nat), v = .agg #[.slice A5 (numB bs e n).length c5, .int .i64 (numE bs e n)] ∧ Bys (numB bs e n) (.slice A5 (numB bs e n).length c5) w) (a.eval (.tmp 52)) w := hl.has 8 rfl
                  obtain ⟨k, ep, hk, hz⟩ := q9
                  obtain ⟨A5, c5, ev, h5⟩ := q52
                  refine ⟨rfl, rfl, _, ?_, ⟨k, A5, c5, ep, ev, rfl⟩⟩
                  have z0 := (blk_cell hz 0).trans rfl
                  have z1 := (blk_cell hz 1).trans rfl
                  have y0 := blk_frozen hz 0
                  have y1 := blk_frozen hz 1
                  clear hl hz h5
                  generalize a.eval = ρ at *
                  go_simp
                · rintro v w w5 hb ⟨e45, e46, e47, e48, e49, e50, e51, e44, e52, e53, e9, _⟩ hW
                  replace e45 : v 0 = .agg #[.slice Ab bs.length cb, .int .i64 e] := e45
                  replace e46 : v 1 = .slice (some ad) l.length c1 := e46
                  replace e47 : v 2 = .int .i64 (i : Int) := e47
                  replace e48 : v 3 = .pointer (some (ad.add (i * 3))) := e48
                  replace e49 : v 4 = .pointer (some ((ad.add (i * 3)).add 1)) := e49
                  replace e50 : v 5 = .int .i64 n := e50
                  replace e51 : (fun v w => ∃ (A5 : Option Addr) (c5 : Nat), v = .tuple #[.agg #[.slice A5 (numB bs e n).length c5, .int .i64 (numE bs e n)], .int .u64 (numV bs e n)] ∧ Bys (numB bs e n) (.slice A5 (numB bs e n).length c5) w) (v 6) w := e51
                  replace e44 : (fun v w => ∃ (A5 : Option Addr) (c5 : Nat), v = .tuple #[.agg #[.slice A5 (numB bs e n).length c5, .int .i64 (numE bs e n)], .int .u64 (numV bs e n)] ∧ Bys (numB bs e n) (.slice A5 (numB bs e n).length c5) w) (v 7) w := e44
                  replace e52 : (fun v w => ∃ (A5 : Option Addr) (c5 : Nat), v = .agg #[.slice A5 (numB bs e n).length c5, .int .i64 (numE bs e n)] ∧ Bys (numB bs e n) (.slice A5 (numB bs e n).length c5) w) (v 8) w := e52
                  replace e53 : v 9 = .int .u64 (numV bs e n) := e53
                  replace e9 : (fun v w => ∃ k, v = .pointer (some ⟨k, 0, none⟩) ∧ wc.heap.size ≤ k ∧ w.heap[k]? = some (.cells #[.slice none 0 0, .int .i64 0] 41 (0, 0))) (v 10) w := e9
                  simp only [Reg.putL, Act.put, List.setIfInBounds_toArray, List.set_cons_zero, List.set_cons_succ, e45, e46, e47, e48, e49, e50, e53]
                  clear e45 e46 e47 e48 e49 e50 e53
                  obtain ⟨k, A5, c5, v9, v52, hww⟩ := hW
                  obtain ⟨A6, c6, v52', HN⟩ := e52
                  rw [v52] at v52'
                  cases v52'
                  obtain ⟨k', v9', hk, hz⟩ := e9
                  rw [v9] at v9'
                  cases v9'
                  have HLF := Aside0.mk (leafT (e := numE bs e n) hz hk hb HN)
                  rw [← hww] at HLF
                  clear hww HN hk hz hb
                  simp only [v52, v9, List.drop_succ_cons, List.drop_zero]
                  clear v52 v9
                  go_wp2_with fail
                  go_meet
                  case rel => exact ⟨_, A5, c5, rfl, rfl, HLF⟩
              case rest =>
                obtain ⟨k, A2, c2, rfl, rfl, HK⟩ := hcut
                have k0 := (blk_cell HK.out.2.1 0).trans rfl
                have k1 := (blk_cell HK.out.2.1 1).trans rfl
                have hst := blk_below HST.out HK.out.2.2.2
                have s0 := (blk_cell hst 0).trans rfl
                have s1 := (blk_cell hst 1).trans rfl
                have f0 := blk_frozen hst 0
                have f1 := blk_frozen hst 1
                have HU := Aside0.mk (upd (S := S) (e2 := numE bs e n) hst (HR.out.below HK.out.2.2.2) (by have := HWS.out; omega) HK.out.2.2.1)
                have HB6 := Aside0.mk (Keeps.below_then (below_step HB.out HK.out.2.2.2) (Nat.le_refl _) HU.out.2.2.2 (fun i hi => by have h1 := HWS.out; have h2 : i = S := hi; omega))
                have cn := (HB6.out.cell (World.block_lt_of_cell? w _ HCN.out)).trans HCN.out
                have cm := (HB6.out.cell (World.block_lt_of_cell? w _ HCM.out)).trans HCM.out
                clear hst n1 n2 cnB cmB kB0 kB1 B1 B2
                have HNUM := Aside0.mk (num_any HU.out.1 HS.out n)
                go_wp2_with fail
                generalize (wc.setCell ⟨S, 0, none⟩ (.slice A2 (numB bs e n).length c2)).setCell ⟨S, 1, none⟩ (.int .i64 (numE bs e n)) = w6 at HU HB6 cn cm HNUM ⊢
                refine HNUM.out.mono ?_
                rintro en w7 ⟨rfl, hr, hk⟩
                have HAF := Aside0.mk (after_call HB6.out HWS.out.2.1 (by have := HWS.out; omega) (HU.out.1.noByte) HU.out.2.1 HU.out.2.2.1 hr hk)
                clear hr hk cn cm k0 k1 s0 s1 f0 f1
                go_wp2_with fail
                go_meet
                case rel => exact ⟨by simp, _, _, _, _, ⟨HS.out.num n⟩, ⟨HAF.out.rd⟩, ⟨HAF.out.st⟩, ⟨HAF.out.by_⟩, ⟨HAF.out.below⟩⟩
          · have e0 : (kind == 0) = false := by simp [q0]
            by_cases q1 : kind = 1
            · subst q1
              as_aux_lemma =>
                go_upto_region 17 with fail
                go_cut [11, 12] from 27 to 159 (fun v11 v12 wx => ∃ (k : Nat) (A : Option Addr) (c : Nat) (A7 : Option Addr) (c7 : Nat), v11 = .pointer (some ⟨k, 0, none⟩) ∧ v12 = .slice A7 (rawO bs e n).length c7 ∧ Aside0 (wc.heap.size ≤ k ∧ wx.heap[k]? = some (.cells #[.slice A (rawB bs e n).length c, .int .i64 (rawE bs e n)] 41 (0, 0)) ∧ Bys (rawB bs e n) (.slice A (rawB bs e n).length c) wx ∧ Below wc.heap.size wc wx) ∧ Aside0 (Bys (rawO bs e n) (.slice A7 (rawO bs e n).length c7) wx))
                case first =>
                  refine Reg.region_store 11 10 8 [9] (fun v1 v2 w w' => ∃ (k : Nat) (A5 : Option Addr) (c5 : Nat), v1 = .pointer (some ⟨k, 0, none⟩) ∧ v2 = .agg #[.slice A5 (rawB bs e n).length c5, .int .i64 (rawE bs e n)] ∧ w' = (w.setCell ⟨k, 0, none⟩ (.slice A5 (rawB bs e n).length c5)).setCell ⟨k, 1, none⟩ (.int .i64 (rawE bs e n))) [Reg.Is (.agg #[.slice Ab bs.length cb, .int .i64 e]), Reg.Is (.slice (some ad) l.length c1), Reg.Is (.int .i64 (i : Int)), Reg.Is (.pointer (some (ad.add (i * 3)))), Reg.Is (.pointer (some ((ad.add (i * 3)).add 1))), Reg.Is (.int .i64 n), (fun v w => ∃ (A5 : Option Addr) (c5 : Nat) (A7 : Option Addr) (c7 : Nat), v = .tuple #[.agg #[.slice A5 (rawB bs e n).length c5, .int .i64 (rawE bs e n)], .slice A7 (rawO bs e n).length c7] ∧ Bys (rawB bs e n) (.slice A5 (rawB bs e n).length c5) w ∧ Bys (rawO bs e n) (.slice A7 (rawO bs e n).length c7) w), (fun v w => ∃ (A5 : Option Addr) (c5 : Nat) (A7 : Option Addr) (c7 : Nat), v = .tuple #[.agg #[.slice A5 (rawB bs e n).length c5, .int .i64 (rawE bs e n)], .slice A7 (rawO bs e n).length c7] ∧ Bys (rawB bs e n) (.slice A5 (rawB bs e n).length c5) w ∧ Bys (rawO bs e n) (.slice A7 (rawO bs e n).length c7) w), (fun v w => ∃ (A5 : Option Addr) (c5 : Nat), v = .agg #[.slice A5 (rawB bs e n).length c5, .int .i64 (rawE bs e n)] ∧ Bys (rawB bs e n) (.slice A5 (rawB bs e n).length c5) w), (fun v w => ∃ (A7 : Option Addr) (c7 : Nat), v = .slice A7 (rawO bs e n).length c7 ∧ Bys (rawO bs e n) (.slice A7 (rawO bs e n).length c7) w), (fun v w => ∃ k, v = .pointer (some ⟨k, 0, none⟩) ∧ wc.heap.size ≤ k ∧ w.heap[k]? = some (.cells #[.slice none 0 0, .int .i64 0] 41 (0, 0)))]
                      [some 67, some 68, some 69, some 70, some 71, some 72, some 73, some 66, some 74, some 75, some 11] (by kernel_rfl) (by rfl) (by rfl) (by rfl) (by rfl) rfl (by kernel_rfl) (by kernel_rfl) (by kernel_rfl) ⟨Reg.mono_is _, Reg.mono_is _, Reg.mono_is _, Reg.mono_is _, Reg.mono_is _, Reg.mono_is _, (fun v w w' ⟨A5, c5, A7, c7, h1, h2, h3⟩ hb => ⟨A5, c5, A7, c7, h1, h2.mono hb, h3.mono hb⟩), (fun v w w' ⟨A5, c5, A7, c7, h1, h2, h3⟩ hb => ⟨A5, c5, A7, c7, h1, h2.mono hb, h3.mono hb⟩), (fun v w w' ⟨A5, c5, h1, h2⟩ hb => ⟨A5, c5, h1, h2.mono hb⟩), (fun v w w' ⟨A5, c5, h1, h2⟩ hb => ⟨A5, c5, h1, h2.mono hb⟩), (fun v w w' ⟨k, h1, h2, h3⟩ hb => ⟨k, h1, h2, blk_below h3 hb⟩), trivial⟩ (Reg.noneOkN_of (by rfl)) ⟨?_, ?_, ?_, ?_, ?_, ?_, ?_, ?_, ?_, ?_, ?_, trivial⟩ ?_ ?_ ?_
                  · intro a w hl   -- 0: slot 67
                    have q6 : a.eval (.tmp 6) = .pointer (some ⟨S, 0, none⟩) := hl.out 6 rfl
                    have qc : ∀ x, a.eval (.const x) = x := fun _ => rfl
                    refine Reg.does_is (x := .agg #[.slice Ab bs.length cb, .int .i64 e]) rfl rfl ?_
                    have hst := blk_below HST.out hl.below
                    have k0 := (blk_cell hst 0).trans rfl
                    have k1 := (blk_cell hst 1).trans rfl
                    clear hl hst
                    generalize a.eval = ρ at *
                    go_simp
                  · intro a w hl   -- 1: slot 68
                    have q1 : a.eval (.tmp 1) = .slice (some ad) l.length c1 := hl.out 1 rfl
                    have qc : ∀ x, a.eval (.const x) = x := fun _ => rfl
                    refine Reg.does_is (x := .slice (some ad) l.length c1) rfl rfl ?_
                    clear hl
                    generalize a.eval = ρ at *
                    go_simp
                  · intro a w hl   -- 2: slot 69
                    have q7 : a.eval (.tmp 7) = .int .i64 (i : Int) := hl.out 7 rfl
                    have qc : ∀ x, a.eval (.const x) = x := fun _ => rfl
                    refine Reg.does_is (x := .int .i64 (i : Int)) rfl rfl ?_
                    clear hl
                    generalize a.eval = ρ at *
                    go_simp
                  · intro a w hl   -- 3: slot 70
                    have q68 : a.eval (.tmp 68) = .slice (some ad) l.length c1 := hl.has 1 rfl
                    have q69 : a.eval (.tmp 69) = .int .i64 (i : Int) := hl.has 2 rfl
                    have qc : ∀ x, a.eval (.const x) = x := fun _ => rfl
                    refine Reg.does_is (x := .pointer (some (ad.add (i * 3)))) rfl rfl ?_
                    clear hl
                    generalize a.eval = ρ at *
                    go_simp
                  · intro a w hl   -- 4: slot 71
                    have q70 : a.eval (.tmp 70) = .pointer (some (ad.add (i * 3))) := hl.has 3 rfl
                    have qc : ∀ x, a.eval (.const x) = x := fun _ => rfl
                    refine Reg.does_is (x := .pointer (some ((ad.add (i * 3)).add 1))) rfl rfl ?_
                    clear hl
                    generalize a.eval = ρ at *
                    go_simp
                  · intro a w hl   -- 5: slot 72
                    have q71 : a.eval (.tmp 71) = .pointer (some ((ad.add (i * 3)).add 1)) := hl.has 4 rfl
                    have qc : ∀ x, a.eval (.const x) = x := fun _ => rfl
                    refine Reg.does_is (x := .int .i64 n) rfl rfl ?_
                    have cn := (hl.below.cell (World.block_lt_of_cell? wc _ cn)).trans cn
                    have cm := (hl.below.cell (World.block_lt_of_cell? wc _ cm)).trans cm
                    clear hl
                    generalize a.eval = ρ at *
                    go_simp
                  · intro a w hl   -- 6: slot 73
                    have q67 : a.eval (.tmp 67) = .agg #[.slice Ab bs.length cb, .int .i64 e] := hl.has 0 rfl
                    have q72 : a.eval (.tmp 72) = .int .i64 n := hl.has 5 rfl
                    have qc : ∀ x, a.eval (.const x) = x := fun _ => rfl
                    refine Reg.does_call_p (p := fun v w => ∃ (A5 : Option Addr) (c5 : Nat) (A7 : Option Addr) (c7 : Nat), v = .tuple #[.agg #[.slice A5 (rawB bs e n).length c5, .int .i64 (rawE bs e n)], .slice A7 (rawO bs e n).length c7] ∧ Bys (rawB bs e n) (.slice A5 (rawB bs e n).length c5) w ∧ Bys (rawO bs e n) (.slice A7 (rawO bs e n).length c7) w) #[.agg #[.slice Ab bs.length cb, .int .i64 e], .int .i64 n] rfl rfl Try.func17 (by kernel_rfl) rfl rfl (by simp [qc, q67, q72]) ?_
                    refine (rraw_calls e (HI.out.mono hl.below) n).mono ?_
                    rintro en w5 ⟨v5, v7, rfl, ⟨A5, c5, rfl, hc5, hC5⟩, ⟨A7, c7, rfl, hc7, hC7⟩, hb⟩
                    exact ⟨_, rfl, ⟨A5, c5, A7, c7, rfl, ⟨A5, c5, rfl, hc5, hC5⟩, ⟨A7, c7, rfl, hc7, hC7⟩⟩, hb⟩
                  · intro a w hl   -- 7: slot 66
                    have q73 : (fun v w => ∃ (A5 : Option Addr) (c5 : Nat) (A7 : Option Addr) (c7 : Nat), v = .tuple #[.agg #[.slice A5 (rawB bs e n).length c5, .int .i64 (rawE bs e n)], .slice A7 (rawO bs e n).length c7] ∧ Bys (rawB bs e n) (.slice A5 (rawB bs e n).length c5) w ∧ Bys (rawO bs e n) (.slice A7 (rawO bs e n).length c7) w) (a.eval (.tmp 73)) w := hl.has 6 rfl
                    obtain ⟨A5, c5, A7, c7, ev, h5, h7⟩ := q73
                    have qc : ∀ x, a.eval (.const x) = x := fun _ => rfl
                    refine Reg.does_new (x := .tuple #[.agg #[.slice A5 (rawB bs e n).length c5, .int .i64 (rawE bs e n)], .slice A7 (rawO bs e n).length c7]) rfl rfl ?_ ⟨A5, c5, A7, c7, rfl, h5, h7⟩ (Below.refl _ _)
                    clear hl
                    generalize a.eval = ρ at *
                    go_simp
                  · intro a w hl   -- 8: slot 74
                    have q66 : (fun v w => ∃ (A5 : Option Addr) (c5 : Nat) (A7 : Option Addr) (c7 : Nat), v = .tuple #[.agg #[.slice A5 (rawB bs e n).length c5, .int .i64 (rawE bs e n)], .slice A7 (rawO bs e n).length c7] ∧ Bys (rawB bs e n) (.slice A5 (rawB bs e n).length c5) w ∧ Bys (rawO bs e n) (.slice A7 (rawO bs e n).length c7) w) (a.eval (.tmp 66)) w := hl.has 7 rfl
                    obtain ⟨A5, c5, A7, c7, ev, h5, h7⟩ := q66
                    have qc : ∀ x, a.eval (.const x) = x := fun _ => rfl
                    refine Reg.does_new (x := .agg #[.slice A5 (rawB bs e n).length c5, .int .i64 (rawE bs e n)]) rfl rfl ?_ ⟨A5, c5, rfl, h5⟩ (Below.refl _ _)
                    clear hl
                    generalize a.eval = ρ at *
                    go_simp
                  · intro a w hl   -- 9: slot 75
                    have q66 : (fun v w => ∃ (A5 : Option Addr) (c5 : Nat) (A7 : Option Addr) (c7 : Nat), v = .tuple #[.agg #[.slice A5 (rawB bs e n).length c5, .int .i64 (rawE bs e n)], .slice A7 (rawO bs e n).length c7] ∧ Bys (rawB bs e n) (.slice A5 (rawB bs e n).length c5) w ∧ Bys (rawO bs e n) (.slice A7 (rawO bs e n).length c7) w) (a.eval (.tmp 66)) w := hl.has 7 rfl
                    obtain ⟨A5, c5, A7, c7, ev, h5, h7⟩ := q66
                    have qc : ∀ x, a.eval (.const x) = x := fun _ => rfl
                    refine Reg.does_new (x := .slice A7 (rawO bs e n).length c7) rfl rfl ?_ ⟨A7, c7, rfl, h7⟩ (Below.refl _ _)
                    clear hl
                    generalize a.eval = ρ at *
                    go_simp
                  · intro a w hl   -- 10: slot 11
                    refine Reg.does_new (x := .pointer (some ⟨w.heap.size, 0, none⟩)) (w' := w.alloc (.cells #[.slice none 0 0, .int .i64 0] 41)) rfl rfl ?_ ⟨_, rfl, hl.below.size, blk_new _ _⟩ (below_alloc (Below.refl _ _) _)
                    clear hl
                    generalize a.eval = ρ at *
                    go_simp
                  · intro i hi   -- the free ones
                    simp only [List.mem_cons, List.not_mem_nil, or_false] at hi
                    rcases hi with rfl
                    · intro o ho a w hl
                      cases ho
                      have q66 : (fun v w => ∃ (A5 : Option Addr) (c5 : Nat) (A7 : Option Addr) (c7 : Nat), v = .tuple #[.agg #[.slice A5 (rawB bs e n).length c5, .int .i64 (rawE bs e n)], .slice A7 (rawO bs e n).length c7] ∧ Bys (rawB bs e n) (.slice A5 (rawB bs e n).length c5) w ∧ Bys (rawO bs e n) (.slice A7 (rawO bs e n).length c7) w) (a.eval (.tmp 66)) w := hl.has 7 rfl
                      obtain ⟨A5, c5, A7, c7, ev, h5, h7⟩ := q66
                      refine ⟨rfl, _, ⟨A7, c7, rfl, h7⟩, fun w2 => ?_⟩
                      clear hl
                      generalize a.eval = ρ at *
                      go_simp
                  · intro a w hl   -- the store
                    have q11 : (fun v w => ∃ k, v = .pointer (some ⟨k, 0, none⟩) ∧ wc.heap.size ≤ k ∧ w.heap[k]? = some (.cells #[.slice none 0 0, .int .i64 0] 41 (0, 0))) (a.eval (.tmp 11)) w := hl.has 10 rfl
                    have q74 : (fun v w => ∃ (A5 : Option Addr) (c5 : Nat), v = .agg #[.slice A5 (rawB bs e n).length c5, .int .i64 (rawE bs e n)] ∧ Bys (rawB bs e n) (.slice A5 (rawB bs e n).length c5) w) (a.eval (.tmp 74)) w := hl.has 8 rfl
                    obtain ⟨k, ep, hk, hz⟩ := q11
                    obtain ⟨A5, c5, ev, h5⟩ := q74
                    refine ⟨rfl, rfl, _, ?_, ⟨k, A5, c5, ep, ev, rfl⟩⟩
                    have z0 := (blk_cell hz 0).trans rfl
                    have z1 := (blk_cell hz 1).trans rfl
                    have y0 := blk_frozen hz 0
                    have y1 := blk_frozen hz 1
                    clear hl hz h5
                    generalize a.eval = ρ at *
                    go_simp
                  · rintro v w w5 hb ⟨e67, e68, e69, e70, e71, e72, e73, e66, e74, e75, e11, _⟩ hW
                    replace e67 : v 0 = .agg #[.slice Ab bs.length cb, .int .i64 e] := e67
                    replace e68 : v 1 = .slice (some ad) l.length c1 := e68
                    replace e69 : v 2 = .int .i64 (i : Int) := e69
                    replace e70 : v 3 = .pointer (some (ad.add (i * 3))) := e70
                    replace e71 : v 4 = .pointer (some ((ad.add (i * 3)).add 1)) := e71
                    replace e72 : v 5 = .int .i64 n := e72
                    replace e73 : (fun v w => ∃ (A5 : Option Addr) (c5 : Nat) (A7 : Option Addr) (c7 : Nat), v = .tuple #[.agg #[.slice A5 (rawB bs e n).length c5, .int .i64 (rawE bs e n)], .slice A7 (rawO bs e n).length c7] ∧ Bys (rawB bs e n) (.slice A5 (rawB bs e n).length c5) w ∧ Bys (rawO bs e n) (.slice A7 (rawO bs e n).length c7) w) (v 6) w := e73
                    replace e66 : (fun v w => ∃ (A5 : Option Addr) (c5 : Nat) (A7 : Option Addr) (c7 : Nat), v = .tuple #[.agg #[.slice A5 (rawB bs e n).length c5, .int .i64 (rawE bs e n)], .slice A7 (rawO bs e n).length c7] ∧ Bys (rawB bs e n) (.slice A5 (rawB bs e n).length c5) w ∧ Bys (rawO bs e n) (.slice A7 (rawO bs e n).length c7) w) (v 7) w := e66
                    replace e74 : (fun v w => ∃ (A5 : Option Addr) (c5 : Nat), v = .agg #[.slice A5 (rawB bs e n).length c5, .int .i64 (rawE bs e n)] ∧ Bys (rawB bs e n) (.slice A5 (rawB bs e n).length c5) w) (v 8) w := e74
                    replace e75 : (fun v w => ∃ (A7 : Option Addr) (c7 : Nat), v = .slice A7 (rawO bs e n).length c7 ∧ Bys (rawO bs e n) (.slice A7 (rawO bs e n).length c7) w) (v 9) w := e75
                    replace e11 : (fun v w => ∃ k, v = .pointer (some ⟨k, 0, none⟩) ∧ wc.heap.size ≤ k ∧ w.heap[k]? = some (.cells #[.slice none 0 0, .int .i64 0] 41 (0, 0))) (v 10) w := e11
                    simp only [Reg.putL, Act.put, List.setIfInBounds_toArray, List.set_cons_zero, List.set_cons_succ, e67, e68, e69, e70, e71, e72]
                    clear e67 e68 e69 e70 e71 e72
                    obtain ⟨A7, c7, v75, h7⟩ := e75
                    simp only [v75]
                    clear v75
                    obtain ⟨k, A5, c5, v9, v52, hww⟩ := hW
                    obtain ⟨A6, c6, v52', HN⟩ := e74
                    rw [v52] at v52'
                    cases v52'
                    obtain ⟨k', v9', hk, hz⟩ := e11
                    rw [v9] at v9'
                    cases v9'
                    have HLF := Aside0.mk (leafT (e := rawE bs e n) hz hk hb HN)
                    have HO5 := Aside0.mk (Bys.far h7 (box_put hz (.slice A5 (rawB bs e n).length c5) (.int .i64 (rawE bs e n))).2 (fun k h => by subst h; exact NoByte.pair hz))
                    clear h7
                    rw [← hww] at HLF HO5
                    clear hww HN hk hz hb
                    simp only [v52, v9, List.drop_succ_cons, List.drop_zero]
                    clear v52 v9
                    go_wp2_with fail
                    go_meet
                    case rel => exact ⟨_, A5, c5, A7, c7, rfl, rfl, HLF, HO5⟩
                case rest =>
                  obtain ⟨k, A2, c2, A7, c7, rfl, rfl, HK, HO⟩ := hcut
                  have k0 := (blk_cell HK.out.2.1 0).trans rfl
                  have k1 := (blk_cell HK.out.2.1 1).trans rfl
                  have hst := blk_below HST.out HK.out.2.2.2
                  have s0 := (blk_cell hst 0).trans rfl
                  have s1 := (blk_cell hst 1).trans rfl
                  have f0 := blk_frozen hst 0
                  have f1 := blk_frozen hst 1
                  have HU := Aside0.mk (upd (S := S) (e2 := rawE bs e n) hst (HR.out.below HK.out.2.2.2) (by have := HWS.out; omega) HK.out.2.2.1)
                  have HB6 := Aside0.mk (Keeps.below_then (below_step HB.out HK.out.2.2.2) (Nat.le_refl _) HU.out.2.2.2 (fun i hi => by have h1 := HWS.out; have h2 : i = S := hi; omega))
                  have cn := (HB6.out.cell (World.block_lt_of_cell? w _ HCN.out)).trans HCN.out
                  have cm := (HB6.out.cell (World.block_lt_of_cell? w _ HCM.out)).trans HCM.out
                  clear hst n1 n2 cnB cmB kB0 kB1 B1 B2
                  have HO := Aside0.mk (Bys.far HO.out HU.out.2.2.2 (fun k h => by subst h; exact NoByte.pair (blk_below HST.out HK.out.2.2.2)))
                  have HNG := Aside0.mk HU.out.1.noByte
                  have HAR := Aside0.mk HU.out.1
                  go_upto_region 19 with fail
                  generalize (wc.setCell ⟨S, 0, none⟩ (.slice A2 (rawB bs e n).length c2)).setCell ⟨S, 1, none⟩ (.int .i64 (rawE bs e n)) = w6 at HU HB6 cn cm HO HNG HAR ⊢
                  have HC6 := Aside0.mk (And.intro cn cm)
                  clear k0 k1 s0 s1 f0 f1 cm cn HST HR HI HB HK
                  refine Reg.region_turn 6 (fun w w' => Keeps (fun k => k = g) w w' ∧ Rd w' g (rawB bs e n) (rawE bs e n)) [0, 1, 2, 3, 4, 5, 8, 9] [7, 8, 9, 10, 11] [Reg.Is (.pointer (some ⟨g, 0, none⟩)), Reg.Is (.slice (some ad) l.length c1), Reg.Is (.int .i64 (i : Int)), Reg.Is (.pointer (some (ad.add (i * 3)))), Reg.Is (.pointer (some ((ad.add (i * 3)).add 1))), Reg.Is (.int .i64 n), (fun v w => ∃ (A8 : Option Addr) (c8 : Nat), v = .slice A8 (rawO bs e n).length c8 ∧ Bys (rawO bs e n) (.slice A8 (rawO bs e n).length c8) w), Reg.Is (.string (strOfNums (rawO bs e n))), Reg.Is (.slice A7 (rawO bs e n).length c7), Reg.Is (.string (strOfNums (rawO bs e n))), Reg.Is (.bool true), Reg.Is (.bool true)]
                      [some 77, some 78, some 79, some 80, some 81, some 82, some 83, some 84, some 85, some 86, some 87, some 8] (by kernel_rfl) (by rfl) (by rfl) (by rfl) (by rfl) rfl (by rfl) (by kernel_rfl) (by kernel_rfl) (by kernel_rfl) ⟨Reg.mono_is _, Reg.mono_is _, Reg.mono_is _, Reg.mono_is _, Reg.mono_is _, Reg.mono_is _, (fun v w w' ⟨A8, c8, h1, h2⟩ hb => ⟨A8, c8, h1, h2.mono hb⟩), Reg.mono_is _, Reg.mono_is _, Reg.mono_is _, Reg.mono_is _, Reg.mono_is _, trivial⟩ ?_ (Reg.noneOk_of (by rfl)) ?_ ⟨?_, ?_, ?_, ?_, ?_, ?_, ?_, ?_, trivial⟩ ?_ ?_
                  · intro j u w w' hj h hht
                    match j, hj, h with
                    | 0, hj, h => exact h
                    | 1, hj, h => exact h
                    | 2, hj, h => exact h
                    | 3, hj, h => exact h
                    | 4, hj, h => exact h
                    | 5, hj, h => exact h
                    | 6, hj, h => exact absurd rfl hj
                    | 7, hj, h => exact h
                    | 8, hj, h => exact h
                    | 9, hj, h => exact h
                    | 10, hj, h => exact h
                    | 11, hj, h => exact h
                    | j + 12, _, h => exact h
                  · intro a w hl   -- 6: slot 83: the call that turns memory
                    have q77 : a.eval (.tmp 77) = .pointer (some ⟨g, 0, none⟩) := hl.has 0 rfl
                    have q82 : a.eval (.tmp 82) = .int .i64 n := hl.has 5 rfl
                    have qc : ∀ x, a.eval (.const x) = x := fun _ => rfl
                    refine Reg.turns_call #[.pointer (some ⟨g, 0, none⟩), .int .i64 n] rfl Try.func18 (by kernel_rfl) rfl rfl (by simp [q77, q82]) ?_
                    refine (raw_calls (HAR.out.below hl.below) n).mono ?_
                    rintro en w7 ⟨v7, rfl, ⟨A8, c8, rfl, hc8, hC8⟩, hfar, hr, hk⟩
                    exact ⟨_, rfl, ⟨A8, c8, rfl, ⟨A8, c8, rfl, hc8, hC8⟩⟩, hk, hr⟩
                  · intro o ho a w hl   -- 0: slot 77
                    cases ho
                    have q5 : a.eval (.tmp 5) = .pointer (some ⟨g, 0, none⟩) := hl.out 5 rfl
                    have qc : ∀ x, a.eval (.const x) = x := fun _ => rfl
                    refine Reg.does_is (x := .pointer (some ⟨g, 0, none⟩)) rfl rfl ?_
                    clear hl
                    generalize a.eval = ρ at *
                    go_simp
                  · intro o ho a w hl   -- 1: slot 78
                    cases ho
                    have q1 : a.eval (.tmp 1) = .slice (some ad) l.length c1 := hl.out 1 rfl
                    have qc : ∀ x, a.eval (.const x) = x := fun _ => rfl
                    refine Reg.does_is (x := .slice (some ad) l.length c1) rfl rfl ?_
                    clear hl
                    generalize a.eval = ρ at *
                    go_simp
                  · intro o ho a w hl   -- 2: slot 79
                    cases ho
                    have q7 : a.eval (.tmp 7) = .int .i64 (i : Int) := hl.out 7 rfl
                    have qc : ∀ x, a.eval (.const x) = x := fun _ => rfl
                    refine Reg.does_is (x := .int .i64 (i : Int)) rfl rfl ?_
                    clear hl
                    generalize a.eval = ρ at *
                    go_simp
                  · intro o ho a w hl   -- 3: slot 80
                    cases ho
                    have q78 : a.eval (.tmp 78) = .slice (some ad) l.length c1 := hl.has 1 rfl
                    have q79 : a.eval (.tmp 79) = .int .i64 (i : Int) := hl.has 2 rfl
                    have qc : ∀ x, a.eval (.const x) = x := fun _ => rfl
                    refine Reg.does_is (x := .pointer (some (ad.add (i * 3)))) rfl rfl ?_
                    clear hl
                    generalize a.eval = ρ at *
                    go_simp
                  · intro o ho a w hl   -- 4: slot 81
                    cases ho
                    have q80 : a.eval (.tmp 80) = .pointer (some (ad.add (i * 3))) := hl.has 3 rfl
                    have qc : ∀ x, a.eval (.const x) = x := fun _ => rfl
                    refine Reg.does_is (x := .pointer (some ((ad.add (i * 3)).add 1))) rfl rfl ?_
                    clear hl
                    generalize a.eval = ρ at *
                    go_simp
                  · intro o ho a w hl   -- 5: slot 82
                    cases ho
                    have q81 : a.eval (.tmp 81) = .pointer (some ((ad.add (i * 3)).add 1)) := hl.has 4 rfl
                    have qc : ∀ x, a.eval (.const x) = x := fun _ => rfl
                    refine Reg.does_is (x := .int .i64 n) rfl rfl ?_
                    have cn := (hl.below.cell (World.block_lt_of_cell? w6 _ HC6.out.1)).trans HC6.out.1
                    have cm := (hl.below.cell (World.block_lt_of_cell? w6 _ HC6.out.2)).trans HC6.out.2
                    clear hl
                    generalize a.eval = ρ at *
                    go_simp
                  · intro o ho a w hl   -- 8: slot 85
                    cases ho
                    have q12 : a.eval (.tmp 12) = .slice A7 (rawO bs e n).length c7 := hl.out 12 rfl
                    have qc : ∀ x, a.eval (.const x) = x := fun _ => rfl
                    refine Reg.does_is (x := .slice A7 (rawO bs e n).length c7) rfl rfl ?_
                    clear hl
                    generalize a.eval = ρ at *
                    go_simp
                  · intro o ho a w hl   -- 9: slot 86
                    cases ho
                    have q85 : a.eval (.tmp 85) = .slice A7 (rawO bs e n).length c7 := hl.has 8 rfl
                    have qc : ∀ x, a.eval (.const x) = x := fun _ => rfl
                    refine Reg.does_is (x := .string (strOfNums (rawO bs e n))) rfl rfl ?_
                    have hs := run_str (HO.out.mono hl.below)
                    clear hl
                    generalize a.eval = ρ at *
                    go_simp
                  · intro w1 w2 hb1 ht
                    refine ⟨?_, ?_, ?_, ?_, ?_, trivial⟩
                    · intro o ho a w hl   -- 7: slot 84
                      cases ho
                      have q83 : (fun v w => ∃ (A8 : Option Addr) (c8 : Nat), v = .slice A8 (rawO bs e n).length c8 ∧ Bys (rawO bs e n) (.slice A8 (rawO bs e n).length c8) w) (a.eval (.tmp 83)) w := hl.has 6 rfl
                      obtain ⟨A8, c8, ev, h8⟩ := q83
                      have qc : ∀ x, a.eval (.const x) = x := fun _ => rfl
                      refine Reg.does_is (x := .string (strOfNums (rawO bs e n))) rfl rfl ?_
                      have hs := run_str (h8)
                      clear hl
                      generalize a.eval = ρ at *
                      go_simp
                    · intro o ho a w hl   -- 8: slot 85
                      cases ho
                      have q12 : a.eval (.tmp 12) = .slice A7 (rawO bs e n).length c7 := hl.out 12 rfl
                      have qc : ∀ x, a.eval (.const x) = x := fun _ => rfl
                      refine Reg.does_is (x := .slice A7 (rawO bs e n).length c7) rfl rfl ?_
                      clear hl
                      generalize a.eval = ρ at *
                      go_simp
                    · intro o ho a w hl   -- 9: slot 86
                      cases ho
                      have q85 : a.eval (.tmp 85) = .slice A7 (rawO bs e n).length c7 := hl.has 8 rfl
                      have qc : ∀ x, a.eval (.const x) = x := fun _ => rfl
                      refine Reg.does_is (x := .string (strOfNums (rawO bs e n))) rfl rfl ?_
                      have hs := run_str ((Bys.far (HO.out.mono hb1) ht.1 (fun k h => by subst h; exact NoByte.below HNG.out hb1)).mono hl.below)
                      clear hl
                      generalize a.eval = ρ at *
                      go_simp
                    · intro o ho a w hl   -- 10: slot 87
                      cases ho
                      have q84 : a.eval (.tmp 84) = .string (strOfNums (rawO bs e n)) := hl.has 7 rfl
                      have q86 : a.eval (.tmp 86) = .string (strOfNums (rawO bs e n)) := hl.has 9 rfl
                      have qc : ∀ x, a.eval (.const x) = x := fun _ => rfl
                      refine Reg.does_is (x := .bool true) rfl rfl ?_
                      clear hl
                      generalize a.eval = ρ at *
                      go_simp
                    · intro o ho a w hl   -- 11: slot 8
                      cases ho
                      have q87 : a.eval (.tmp 87) = .bool true := hl.has 10 rfl
                      have qc : ∀ x, a.eval (.const x) = x := fun _ => rfl
                      refine Reg.does_is (x := .bool true) rfl rfl ?_
                      clear hl
                      generalize a.eval = ρ at *
                      go_simp
                  · rintro v w1 w2 w hb1 ht hb ⟨e77, e78, e79, e80, e81, e82, e83, e84, e85, e86, e87, e8, _⟩
                    replace e77 : v 0 = .pointer (some ⟨g, 0, none⟩) := e77
                    replace e78 : v 1 = .slice (some ad) l.length c1 := e78
                    replace e79 : v 2 = .int .i64 (i : Int) := e79
                    replace e80 : v 3 = .pointer (some (ad.add (i * 3))) := e80
                    replace e81 : v 4 = .pointer (some ((ad.add (i * 3)).add 1)) := e81
                    replace e82 : v 5 = .int .i64 n := e82
                    replace e83 : (fun v w => ∃ (A8 : Option Addr) (c8 : Nat), v = .slice A8 (rawO bs e n).length c8 ∧ Bys (rawO bs e n) (.slice A8 (rawO bs e n).length c8) w) (v 6) w := e83
                    replace e84 : v 7 = .string (strOfNums (rawO bs e n)) := e84
                    replace e85 : v 8 = .slice A7 (rawO bs e n).length c7 := e85
                    replace e86 : v 9 = .string (strOfNums (rawO bs e n)) := e86
                    replace e87 : v 10 = .bool true := e87
                    replace e8 : v 11 = .bool true := e8
                    simp only [Reg.putL, Act.put, List.setIfInBounds_toArray, List.set_cons_zero, List.set_cons_succ, e77, e78, e79, e80, e81, e82, e84, e85, e86, e87, e8]
                    clear e77 e78 e79 e80 e81 e82 e84 e85 e86 e87 e8
                    have HAF := Aside0.mk (after_call HB6.out HWS.out.2.1 (by have := HWS.out; omega) HNG.out HU.out.2.1 HU.out.2.2.1 (ht.2.below hb) (((Keeps.of_below hb1 _).trans ht.1).then_below hb))
                    clear hb hb1 ht
                    go_wp2_with fail
                    go_meet
                    case rel => exact ⟨by simp, _, _, _, _, ⟨HS.out.raw n⟩, ⟨HAF.out.rd⟩, ⟨HAF.out.st⟩, ⟨HAF.out.by_⟩, ⟨HAF.out.below⟩⟩
            · have e1 : (kind == 1) = false := by simp [q1]
              by_cases q2 : kind = 2
              · subst q2
                as_aux_lemma =>
                  go_upto_region 21 with fail
                  go_cut [13, 14] from 27 to 159 (fun v13 v14 wx => ∃ (k : Nat) (A : Option Addr) (c : Nat), v13 = .pointer (some ⟨k, 0, none⟩) ∧ v14 = .string (txtS bs e n m) ∧ Aside0 (wc.heap.size ≤ k ∧ wx.heap[k]? = some (.cells #[.slice A (txtB bs e n m).length c, .int .i64 (txtE bs e n m)] 41 (0, 0)) ∧ Bys (txtB bs e n m) (.slice A (txtB bs e n m).length c) wx ∧ Below wc.heap.size wc wx))
                  case first =>
                    refine Reg.region_store 16 15 13 [14] (fun v1 v2 w w' => ∃ (k : Nat) (A5 : Option Addr) (c5 : Nat), v1 = .pointer (some ⟨k, 0, none⟩) ∧ v2 = .agg #[.slice A5 (txtB bs e n m).length c5, .int .i64 (txtE bs e n m)] ∧ w' = (w.setCell ⟨k, 0, none⟩ (.slice A5 (txtB bs e n m).length c5)).setCell ⟨k, 1, none⟩ (.int .i64 (txtE bs e n m))) [Reg.Is (.agg #[.slice Ab bs.length cb, .int .i64 e]), Reg.Is (.slice (some ad) l.length c1), Reg.Is (.int .i64 (i : Int)), Reg.Is (.pointer (some (ad.add (i * 3)))), Reg.Is (.pointer (some ((ad.add (i * 3)).add 1))), Reg.Is (.int .i64 n), Reg.Is (.slice (some ad) l.length c1), Reg.Is (.int .i64 (i : Int)), Reg.Is (.pointer (some (ad.add (i * 3)))), Reg.Is (.pointer (some ((ad.add (i * 3)).add 2))), Reg.Is (.int .i64 m), (fun v w => ∃ (A5 : Option Addr) (c5 : Nat), v = .tuple #[.agg #[.slice A5 (txtB bs e n m).length c5, .int .i64 (txtE bs e n m)], .string (txtS bs e n m)] ∧ Bys (txtB bs e n m) (.slice A5 (txtB bs e n m).length c5) w), (fun v w => ∃ (A5 : Option Addr) (c5 : Nat), v = .tuple #[.agg #[.slice A5 (txtB bs e n m).length c5, .int .i64 (txtE bs e n m)], .string (txtS bs e n m)] ∧ Bys (txtB bs e n m) (.slice A5 (txtB bs e n m).length c5) w), (fun v w => ∃ (A5 : Option Addr) (c5 : Nat), v = .agg #[.slice A5 (txtB bs e n m).length c5, .int .i64 (txtE bs e n m)] ∧ Bys (txtB bs e n m) (.slice A5 (txtB bs e n m).length c5) w), Reg.Is (.string (txtS bs e n m)), (fun v w => ∃ k, v = .pointer (some ⟨k, 0, none⟩) ∧ wc.heap.size ≤ k ∧ w.heap[k]? = some (.cells #[.slice none 0 0, .int .i64 0] 41 (0, 0)))]
                        [some 91, some 92, some 93, some 94, some 95, some 96, some 97, some 98, some 99, some 100, some 101, some 102, some 90, some 103, some 104, some 13] (by kernel_rfl) (by rfl) (by rfl) (by rfl) (by rfl) rfl (by kernel_rfl) (by kernel_rfl) (by kernel_rfl) ⟨Reg.mono_is _, Reg.mono_is _, Reg.mono_is _, Reg.mono_is _, Reg.mono_is _, Reg.mono_is _, Reg.mono_is _, Reg.mono_is _, Reg.mono_is _, Reg.mono_is _, Reg.mono_is _, (fun v w w' ⟨A5, c5, h1, h2⟩ hb => ⟨A5, c5, h1, h2.mono hb⟩), (fun v w w' ⟨A5, c5, h1, h2⟩ hb => ⟨A5, c5, h1, h2.mono hb⟩), (fun v w w' ⟨A5, c5, h1, h2⟩ hb => ⟨A5, c5, h1, h2.mono hb⟩), Reg.mono_is _, (fun v w w' ⟨k, h1, h2, h3⟩ hb => ⟨k, h1, h2, blk_below h3 hb⟩), trivial⟩ (Reg.noneOkN_of (by rfl)) ⟨?_, ?_, ?_, ?_, ?_, ?_, ?_, ?_, ?_, ?_, ?_, ?_, ?_, ?_, ?_, ?_, trivial⟩ ?_ ?_ ?_
                    · intro a w hl   -- 0: slot 91
                      have q6 : a.eval (.tmp 6) = .pointer (some ⟨S, 0, none⟩) := hl.out 6 rfl
                      have qc : ∀ x, a.eval (.const x) = x := fun _ => rfl
                      refine Reg.does_is (x := .agg #[.slice Ab bs.length cb, .int .i64 e]) rfl rfl ?_
                      have hst := blk_below HST.out hl.below
                      have k0 := (blk_cell hst 0).trans rfl
                      have k1 := (blk_cell hst 1).trans rfl
                      clear hl hst
                      generalize a.eval = ρ at *
                      go_simp
                    · intro a w hl   -- 1: slot 92
                      have q1 : a.eval (.tmp 1) = .slice (some ad) l.length c1 := hl.out 1 rfl
                      have qc : ∀ x, a.eval (.const x) = x := fun _ => rfl
                      refine Reg.does_is (x := .slice (some ad) l.length c1) rfl rfl ?_
                      clear hl
                      generalize a.eval = ρ at *
                      go_simp
                    · intro a w hl   -- 2: slot 93
                      have q7 : a.eval (.tmp 7) = .int .i64 (i : Int) := hl.out 7 rfl
                      have qc : ∀ x, a.eval (.const x) = x := fun _ => rfl
                      refine Reg.does_is (x := .int .i64 (i : Int)) rfl rfl ?_
                      clear hl
                      generalize a.eval = ρ at *
                      go_simp
                    · intro a w hl   -- 3: slot 94
                      have q92 : a.eval (.tmp 92) = .slice (some ad) l.length c1 := hl.has 1 rfl
                      have q93 : a.eval (.tmp 93) = .int .i64 (i : Int) := hl.has 2 rfl
                      have qc : ∀ x, a.eval (.const x) = x := fun _ => rfl
                      refine Reg.does_is (x := .pointer (some (ad.add (i * 3)))) rfl rfl ?_
                      clear hl
                      generalize a.eval = ρ at *
                      go_simp
                    · intro a w hl   -- 4: slot 95
                      have q94 : a.eval (.tmp 94) = .pointer (some (ad.add (i * 3))) := hl.has 3 rfl
                      have qc : ∀ x, a.eval (.const x) = x := fun _ => rfl
                      refine Reg.does_is (x := .pointer (some ((ad.add (i * 3)).add 1))) rfl rfl ?_
                      clear hl
                      generalize a.eval = ρ at *
                      go_simp
                    · intro a w hl   -- 5: slot 96
                      have q95 : a.eval (.tmp 95) = .pointer (some ((ad.add (i * 3)).add 1)) := hl.has 4 rfl
                      have qc : ∀ x, a.eval (.const x) = x := fun _ => rfl
                      refine Reg.does_is (x := .int .i64 n) rfl rfl ?_
                      have cn := (hl.below.cell (World.block_lt_of_cell? wc _ cn)).trans cn
                      have cm := (hl.below.cell (World.block_lt_of_cell? wc _ cm)).trans cm
                      clear hl
                      generalize a.eval = ρ at *
                      go_simp
                    · intro a w hl   -- 6: slot 97
                      have q1 : a.eval (.tmp 1) = .slice (some ad) l.length c1 := hl.out 1 rfl
                      have qc : ∀ x, a.eval (.const x) = x := fun _ => rfl
                      refine Reg.does_is (x := .slice (some ad) l.length c1) rfl rfl ?_
                      clear hl
                      generalize a.eval = ρ at *
                      go_simp
                    · intro a w hl   -- 7: slot 98
                      have q7 : a.eval (.tmp 7) = .int .i64 (i : Int) := hl.out 7 rfl
                      have qc : ∀ x, a.eval (.const x) = x := fun _ => rfl
                      refine Reg.does_is (x := .int .i64 (i : Int)) rfl rfl ?_
                      clear hl
                      generalize a.eval = ρ at *
                      go_simp
                    · intro a w hl   -- 8: slot 99
                      have q97 : a.eval (.tmp 97) = .slice (some ad) l.length c1 := hl.has 6 rfl
                      have q98 : a.eval (.tmp 98) = .int .i64 (i : Int) := hl.has 7 rfl
                      have qc : ∀ x, a.eval (.const x) = x := fun _ => rfl
                      refine Reg.does_is (x := .pointer (some (ad.add (i * 3)))) rfl rfl ?_
                      clear hl
                      generalize a.eval = ρ at *
                      go_simp
                    · intro a w hl   -- 9: slot 100
                      have q99 : a.eval (.tmp 99) = .pointer (some (ad.add (i * 3))) := hl.has 8 rfl
                      have qc : ∀ x, a.eval (.const x) = x := fun _ => rfl
                      refine Reg.does_is (x := .pointer (some ((ad.add (i * 3)).add 2))) rfl rfl ?_
                      clear hl
                      generalize a.eval = ρ at *
                      go_simp
                    · intro a w hl   -- 10: slot 101
                      have q100 : a.eval (.tmp 100) = .pointer (some ((ad.add (i * 3)).add 2)) := hl.has 9 rfl
                      have qc : ∀ x, a.eval (.const x) = x := fun _ => rfl
                      refine Reg.does_is (x := .int .i64 m) rfl rfl ?_
                      have cn := (hl.below.cell (World.block_lt_of_cell? wc _ cn)).trans cn
                      have cm := (hl.below.cell (World.block_lt_of_cell? wc _ cm)).trans cm
                      clear hl
                      generalize a.eval = ρ at *
                      go_simp
                    · intro a w hl   -- 11: slot 102
                      have q91 : a.eval (.tmp 91) = .agg #[.slice Ab bs.length cb, .int .i64 e] := hl.has 0 rfl
                      have q96 : a.eval (.tmp 96) = .int .i64 n := hl.has 5 rfl
                      have q101 : a.eval (.tmp 101) = .int .i64 m := hl.has 10 rfl
                      have qc : ∀ x, a.eval (.const x) = x := fun _ => rfl
                      refine Reg.does_call_p (p := fun v w => ∃ (A5 : Option Addr) (c5 : Nat), v = .tuple #[.agg #[.slice A5 (txtB bs e n m).length c5, .int .i64 (txtE bs e n m)], .string (txtS bs e n m)] ∧ Bys (txtB bs e n m) (.slice A5 (txtB bs e n m).length c5) w) #[.agg #[.slice Ab bs.length cb, .int .i64 e], .int .i64 n, .int .i64 m] rfl rfl Try.func19 (by kernel_rfl) rfl rfl (by simp [qc, q91, q96, q101]) ?_
                      refine (rtext_any (HI.out.mono hl.below) HS.out n m).mono ?_
                      rintro en w5 ⟨v5, rfl, ⟨A5, c5, rfl, hc5, hC5⟩, hb⟩
                      exact ⟨_, rfl, ⟨A5, c5, rfl, ⟨A5, c5, rfl, hc5, hC5⟩⟩, hb⟩
                    · intro a w hl   -- 12: slot 90
                      have q102 : (fun v w => ∃ (A5 : Option Addr) (c5 : Nat), v = .tuple #[.agg #[.slice A5 (txtB bs e n m).length c5, .int .i64 (txtE bs e n m)], .string (txtS bs e n m)] ∧ Bys (txtB bs e n m) (.slice A5 (txtB bs e n m).length c5) w) (a.eval (.tmp 102)) w := hl.has 11 rfl
                      obtain ⟨A5, c5, ev, h5⟩ := q102
                      have qc : ∀ x, a.eval (.const x) = x := fun _ => rfl
                      refine Reg.does_new (x := .tuple #[.agg #[.slice A5 (txtB bs e n m).length c5, .int .i64 (txtE bs e n m)], .string (txtS bs e n m)]) rfl rfl ?_ ⟨A5, c5, rfl, h5⟩ (Below.refl _ _)
                      clear hl
                      generalize a.eval = ρ at *
                      go_simp
                    · intro a w hl   -- 13: slot 103
                      have q90 : (fun v w => ∃ (A5 : Option Addr) (c5 : Nat), v = .tuple #[.agg #[.slice A5 (txtB bs e n m).length c5, .int .i64 (txtE bs e n m)], .string (txtS bs e n m)] ∧ Bys (txtB bs e n m) (.slice A5 (txtB bs e n m).length c5) w) (a.eval (.tmp 90)) w := hl.has 12 rfl
                      obtain ⟨A5, c5, ev, h5⟩ := q90
                      have qc : ∀ x, a.eval (.const x) = x := fun _ => rfl
                      refine Reg.does_new (x := .agg #[.slice A5 (txtB bs e n m).length c5, .int .i64 (txtE bs e n m)]) rfl rfl ?_ ⟨A5, c5, rfl, h5⟩ (Below.refl _ _)
                      clear hl
                      generalize a.eval = ρ at *
                      go_simp
                    · intro a w hl   -- 14: slot 104
                      have q90 : (fun v w => ∃ (A5 : Option Addr) (c5 : Nat), v = .tuple #[.agg #[.slice A5 (txtB bs e n m).length c5, .int .i64 (txtE bs e n m)], .string (txtS bs e n m)] ∧ Bys (txtB bs e n m) (.slice A5 (txtB bs e n m).length c5) w) (a.eval (.tmp 90)) w := hl.has 12 rfl
                      obtain ⟨A5, c5, ev, h5⟩ := q90
                      have qc : ∀ x, a.eval (.const x) = x := fun _ => rfl
                      refine Reg.does_is (x := .string (txtS bs e n m)) rfl rfl ?_
                      clear hl
                      generalize a.eval = ρ at *
                      go_simp
                    · intro a w hl   -- 15: slot 13
                      refine Reg.does_new (x := .pointer (some ⟨w.heap.size, 0, none⟩)) (w' := w.alloc (.cells #[.slice none 0 0, .int .i64 0] 41)) rfl rfl ?_ ⟨_, rfl, hl.below.size, blk_new _ _⟩ (below_alloc (Below.refl _ _) _)
                      clear hl
                      generalize a.eval = ρ at *
                      go_simp
                    · intro i hi   -- the free ones
                      simp only [List.mem_cons, List.not_mem_nil, or_false] at hi
                      rcases hi with rfl
                      · intro o ho a w hl
                        cases ho
                        have q90 : (fun v w => ∃ (A5 : Option Addr) (c5 : Nat), v = .tuple #[.agg #[.slice A5 (txtB bs e n m).length c5, .int .i64 (txtE bs e n m)], .string (txtS bs e n m)] ∧ Bys (txtB bs e n m) (.slice A5 (txtB bs e n m).length c5) w) (a.eval (.tmp 90)) w := hl.has 12 rfl
                        obtain ⟨A5, c5, ev, h5⟩ := q90
                        refine ⟨rfl, .string (txtS bs e n m), rfl, fun w2 => ?_⟩
                        clear hl
                        generalize a.eval = ρ at *
                        go_simp
                    · intro a w hl   -- the store
                      have q13 : (fun v w => ∃ k, v = .pointer (some ⟨k, 0, none⟩) ∧ wc.heap.size ≤ k ∧ w.heap[k]? = some (.cells #[.slice none 0 0, .int .i64 0] 41 (0, 0))) (a.eval (.tmp 13)) w := hl.has 15 rfl
                      have q103 : (fun v w => ∃ (A5 : Option Addr) (c5 : Nat), v = .agg #[.slice A5 (txtB bs e n m).length c5, .int .i64 (txtE bs e n m)] ∧ Bys (txtB bs e n m) (.slice A5 (txtB bs e n m).length c5) w) (a.eval (.tmp 103)) w := hl.has 13 rfl
                      obtain ⟨k, ep, hk, hz⟩ := q13
                      obtain ⟨A5, c5, ev, h5⟩ := q103
                      refine ⟨rfl, rfl, _, ?_, ⟨k, A5, c5, ep, ev, rfl⟩⟩
                      have z0 := (blk_cell hz 0).trans rfl
                      have z1 := (blk_cell hz 1).trans rfl
                      have y0 := blk_frozen hz 0
                      have y1 := blk_frozen hz 1
                      clear hl hz h5
                      generalize a.eval = ρ at *
                      go_simp
                    · rintro v w w5 hb ⟨e91, e92, e93, e94, e95, e96, e97, e98, e99, e100, e101, e102, e90, e103, e104, e13, _⟩ hW
                      replace e91 : v 0 = .agg #[.slice Ab bs.length cb, .int .i64 e] := e91
                      replace e92 : v 1 = .slice (some ad) l.length c1 := e92
                      replace e93 : v 2 = .int .i64 (i : Int) := e93
                      replace e94 : v 3 = .pointer (some (ad.add (i * 3))) := e94
                      replace e95 : v 4 = .pointer (some ((ad.add (i * 3)).add 1)) := e95
                      replace e96 : v 5 = .int .i64 n := e96
                      replace e97 : v 6 = .slice (some ad) l.length c1 := e97
                      replace e98 : v 7 = .int .i64 (i : Int) := e98
                      replace e99 : v 8 = .pointer (some (ad.add (i * 3))) := e99
                      replace e100 : v 9 = .pointer (some ((ad.add (i * 3)).add 2)) := e100
                      replace e101 : v 10 = .int .i64 m := e101
                      replace e102 : (fun v w => ∃ (A5 : Option Addr) (c5 : Nat), v = .tuple #[.agg #[.slice A5 (txtB bs e n m).length c5, .int .i64 (txtE bs e n m)], .string (txtS bs e n m)] ∧ Bys (txtB bs e n m) (.slice A5 (txtB bs e n m).length c5) w) (v 11) w := e102
                      replace e90 : (fun v w => ∃ (A5 : Option Addr) (c5 : Nat), v = .tuple #[.agg #[.slice A5 (txtB bs e n m).length c5, .int .i64 (txtE bs e n m)], .string (txtS bs e n m)] ∧ Bys (txtB bs e n m) (.slice A5 (txtB bs e n m).length c5) w) (v 12) w := e90
                      replace e103 : (fun v w => ∃ (A5 : Option Addr) (c5 : Nat), v = .agg #[.slice A5 (txtB bs e n m).length c5, .int .i64 (txtE bs e n m)] ∧ Bys (txtB bs e n m) (.slice A5 (txtB bs e n m).length c5) w) (v 13) w := e103
                      replace e104 : v 14 = .string (txtS bs e n m) := e104
                      replace e13 : (fun v w => ∃ k, v = .pointer (some ⟨k, 0, none⟩) ∧ wc.heap.size ≤ k ∧ w.heap[k]? = some (.cells #[.slice none 0 0, .int .i64 0] 41 (0, 0))) (v 15) w := e13
                      simp only [Reg.putL, Act.put, List.setIfInBounds_toArray, List.set_cons_zero, List.set_cons_succ, e91, e92, e93, e94, e95, e96, e97, e98, e99, e100, e101, e104]
                      clear e91 e92 e93 e94 e95 e96 e97 e98 e99 e100 e101 e104
                      obtain ⟨k, A5, c5, v9, v52, hww⟩ := hW
                      obtain ⟨A6, c6, v52', HN⟩ := e103
                      rw [v52] at v52'
                      cases v52'
                      obtain ⟨k', v9', hk, hz⟩ := e13
                      rw [v9] at v9'
                      cases v9'
                      have HLF := Aside0.mk (leafT (e := txtE bs e n m) hz hk hb HN)
                      rw [← hww] at HLF
                      clear hww HN hk hz hb
                      simp only [v52, v9, List.drop_succ_cons, List.drop_zero]
                      clear v52 v9
                      go_wp2_with fail
                      go_meet
                      case rel => exact ⟨_, A5, c5, rfl, rfl, HLF⟩
                  case rest =>
                    obtain ⟨k, A2, c2, rfl, rfl, HK⟩ := hcut
                    have k0 := (blk_cell HK.out.2.1 0).trans rfl
                    have k1 := (blk_cell HK.out.2.1 1).trans rfl
                    have hst := blk_below HST.out HK.out.2.2.2
                    have s0 := (blk_cell hst 0).trans rfl
                    have s1 := (blk_cell hst 1).trans rfl
                    have f0 := blk_frozen hst 0
                    have f1 := blk_frozen hst 1
                    have HU := Aside0.mk (upd (S := S) (e2 := txtE bs e n m) hst (HR.out.below HK.out.2.2.2) (by have := HWS.out; omega) HK.out.2.2.1)
                    have HB6 := Aside0.mk (Keeps.below_then (below_step HB.out HK.out.2.2.2) (Nat.le_refl _) HU.out.2.2.2 (fun i hi => by have h1 := HWS.out; have h2 : i = S := hi; omega))
                    have cn := (HB6.out.cell (World.block_lt_of_cell? w _ HCN.out)).trans HCN.out
                    have cm := (HB6.out.cell (World.block_lt_of_cell? w _ HCM.out)).trans HCM.out
                    clear hst n1 n2 cnB cmB kB0 kB1 B1 B2
                    have HNG := Aside0.mk HU.out.1.noByte
                    have HAR := Aside0.mk HU.out.1
                    go_upto_region 23 with fail
                    generalize (wc.setCell ⟨S, 0, none⟩ (.slice A2 (txtB bs e n m).length c2)).setCell ⟨S, 1, none⟩ (.int .i64 (txtE bs e n m)) = w6 at HU HB6 cn cm HNG HAR ⊢
                    have HC6 := Aside0.mk (And.intro cn cm)
                    clear k0 k1 s0 s1 f0 f1 cn cm HST HR HI HB HK
                    refine Reg.region_turn 11 (fun w w' => Keeps (fun k => k = g) w w' ∧ Rd w' g (txtB bs e n m) (txtE bs e n m)) [0, 1, 2, 3, 4, 5, 6, 7, 8, 9, 10, 12] [12, 13, 14] [Reg.Is (.pointer (some ⟨g, 0, none⟩)), Reg.Is (.slice (some ad) l.length c1), Reg.Is (.int .i64 (i : Int)), Reg.Is (.pointer (some (ad.add (i * 3)))), Reg.Is (.pointer (some ((ad.add (i * 3)).add 1))), Reg.Is (.int .i64 n), Reg.Is (.slice (some ad) l.length c1), Reg.Is (.int .i64 (i : Int)), Reg.Is (.pointer (some (ad.add (i * 3)))), Reg.Is (.pointer (some ((ad.add (i * 3)).add 2))), Reg.Is (.int .i64 m), Reg.Is (.string (txtS bs e n m)), Reg.Is (.string (txtS bs e n m)), Reg.Is (.bool true), Reg.Is (.bool true)]
                        [some 106, some 107, some 108, some 109, some 110, some 111, some 112, some 113, some 114, some 115, some 116, some 117, some 118, some 119, some 8] (by kernel_rfl) (by rfl) (by rfl) (by rfl) (by rfl) rfl (by rfl) (by kernel_rfl) (by kernel_rfl) (by kernel_rfl) ⟨Reg.mono_is _, Reg.mono_is _, Reg.mono_is _, Reg.mono_is _, Reg.mono_is _, Reg.mono_is _, Reg.mono_is _, Reg.mono_is _, Reg.mono_is _, Reg.mono_is _, Reg.mono_is _, Reg.mono_is _, Reg.mono_is _, Reg.mono_is _, Reg.mono_is _, trivial⟩ ?_ (Reg.noneOk_of (by rfl)) ?_ ⟨?_, ?_, ?_, ?_, ?_, ?_, ?_, ?_, ?_, ?_, ?_, ?_, trivial⟩ ?_ ?_
                    · intro j u w w' hj h hht
                      match j, hj, h with
                      | 0, hj, h => exact h
                      | 1, hj, h => exact h
                      | 2, hj, h => exact h
                      | 3, hj, h => exact h
                      | 4, hj, h => exact h
                      | 5, hj, h => exact h
                      | 6, hj, h => exact h
                      | 7, hj, h => exact h
                      | 8, hj, h => exact h
                      | 9, hj, h => exact h
                      | 10, hj, h => exact h
                      | 11, hj, h => exact absurd rfl hj
                      | 12, hj, h => exact h
                      | 13, hj, h => exact h
                      | 14, hj, h => exact h
                      | j + 15, _, h => exact h
                    · intro a w hl   -- 11: slot 117: the call that turns memory
                      have q106 : a.eval (.tmp 106) = .pointer (some ⟨g, 0, none⟩) := hl.has 0 rfl
                      have q111 : a.eval (.tmp 111) = .int .i64 n := hl.has 5 rfl
                      have q116 : a.eval (.tmp 116) = .int .i64 m := hl.has 10 rfl
                      have qc : ∀ x, a.eval (.const x) = x := fun _ => rfl
                      refine Reg.turns_call #[.pointer (some ⟨g, 0, none⟩), .int .i64 n, .int .i64 m] rfl Try.func20 (by kernel_rfl) rfl rfl (by simp [q106, q111, q116]) ?_
                      refine (text_any (HAR.out.below hl.below) n m).mono ?_
                      rintro en w7 ⟨rfl, hr, hk⟩
                      exact ⟨_, rfl, rfl, hk, hr⟩
                    · intro o ho a w hl   -- 0: slot 106
                      cases ho
                      have q5 : a.eval (.tmp 5) = .pointer (some ⟨g, 0, none⟩) := hl.out 5 rfl
                      have qc : ∀ x, a.eval (.const x) = x := fun _ => rfl
                      refine Reg.does_is (x := .pointer (some ⟨g, 0, none⟩)) rfl rfl ?_
                      clear hl
                      generalize a.eval = ρ at *
                      go_simp
                    · intro o ho a w hl   -- 1: slot 107
                      cases ho
                      have q1 : a.eval (.tmp 1) = .slice (some ad) l.length c1 := hl.out 1 rfl
                      have qc : ∀ x, a.eval (.const x) = x := fun _ => rfl
                      refine Reg.does_is (x := .slice (some ad) l.length c1) rfl rfl ?_
                      clear hl
                      generalize a.eval = ρ at *
                      go_simp
                    · intro o ho a w hl   -- 2: slot 108
                      cases ho
                      have q7 : a.eval (.tmp 7) = .int .i64 (i : Int) := hl.out 7 rfl
                      have qc : ∀ x, a.eval (.const x) = x := fun _ => rfl
                      refine Reg.does_is (x := .int .i64 (i : Int)) rfl rfl ?_
                      clear hl
                      generalize a.eval = ρ at *
                      go_simp
                    · intro o ho a w hl   -- 3: slot 109
                      cases ho
                      have q107 : a.eval (.tmp 107) = .slice (some ad) l.length c1 := hl.has 1 rfl
                      have q108 : a.eval (.tmp 108) = .int .i64 (i : Int) := hl.has 2 rfl
                      have qc : ∀ x, a.eval (.const x) = x := fun _ => rfl
                      refine Reg.does_is (x := .pointer (some (ad.add (i * 3)))) rfl rfl ?_
                      clear hl
                      generalize a.eval = ρ at *
                      go_simp
                    · intro o ho a w hl   -- 4: slot 110
                      cases ho
                      have q109 : a.eval (.tmp 109) = .pointer (some (ad.add (i * 3))) := hl.has 3 rfl
                      have qc : ∀ x, a.eval (.const x) = x := fun _ => rfl
                      refine Reg.does_is (x := .pointer (some ((ad.add (i * 3)).add 1))) rfl rfl ?_
                      clear hl
                      generalize a.eval = ρ at *
                      go_simp
                    · intro o ho a w hl   -- 5: slot 111
                      cases ho
                      have q110 : a.eval (.tmp 110) = .pointer (some ((ad.add (i * 3)).add 1)) := hl.has 4 rfl
                      have qc : ∀ x, a.eval (.const x) = x := fun _ => rfl
                      refine Reg.does_is (x := .int .i64 n) rfl rfl ?_
                      have cn := (hl.below.cell (World.block_lt_of_cell? w6 _ HC6.out.1)).trans HC6.out.1
                      have cm := (hl.below.cell (World.block_lt_of_cell? w6 _ HC6.out.2)).trans HC6.out.2
                      clear hl
                      generalize a.eval = ρ at *
                      go_simp
                    · intro o ho a w hl   -- 6: slot 112
                      cases ho
                      have q1 : a.eval (.tmp 1) = .slice (some ad) l.length c1 := hl.out 1 rfl
                      have qc : ∀ x, a.eval (.const x) = x := fun _ => rfl
                      refine Reg.does_is (x := .slice (some ad) l.length c1) rfl rfl ?_
                      clear hl
                      generalize a.eval = ρ at *
                      go_simp
                    · intro o ho a w hl   -- 7: slot 113
                      cases ho
                      have q7 : a.eval (.tmp 7) = .int .i64 (i : Int) := hl.out 7 rfl
                      have qc : ∀ x, a.eval (.const x) = x := fun _ => rfl
                      refine Reg.does_is (x := .int .i64 (i : Int)) rfl rfl ?_
                      clear hl
                      generalize a.eval = ρ at *
                      go_simp
                    · intro o ho a w hl   -- 8: slot 114
                      cases ho
                      have q112 : a.eval (.tmp 112) = .slice (some ad) l.length c1 := hl.has 6 rfl
                      have q113 : a.eval (.tmp 113) = .int .i64 (i : Int) := hl.has 7 rfl
                      have qc : ∀ x, a.eval (.const x) = x := fun _ => rfl
                      refine Reg.does_is (x := .pointer (some (ad.add (i * 3)))) rfl rfl ?_
                      clear hl
                      generalize a.eval = ρ at *
                      go_simp
                    · intro o ho a w hl   -- 9: slot 115
                      cases ho
                      have q114 : a.eval (.tmp 114) = .pointer (some (ad.add (i * 3))) := hl.has 8 rfl
                      have qc : ∀ x, a.eval (.const x) = x := fun _ => rfl
                      refine Reg.does_is (x := .pointer (some ((ad.add (i * 3)).add 2))) rfl rfl ?_
                      clear hl
                      generalize a.eval = ρ at *
                      go_simp
                    · intro o ho a w hl   -- 10: slot 116
                      cases ho
                      have q115 : a.eval (.tmp 115) = .pointer (some ((ad.add (i * 3)).add 2)) := hl.has 9 rfl
                      have qc : ∀ x, a.eval (.const x) = x := fun _ => rfl
                      refine Reg.does_is (x := .int .i64 m) rfl rfl ?_
                      have cn := (hl.below.cell (World.block_lt_of_cell? w6 _ HC6.out.1)).trans HC6.out.1
                      have cm := (hl.below.cell (World.block_lt_of_cell? w6 _ HC6.out.2)).trans HC6.out.2
                      clear hl
                      generalize a.eval = ρ at *
                      go_simp
                    · intro o ho a w hl   -- 12: slot 118
                      cases ho
                      have q14 : a.eval (.tmp 14) = .string (txtS bs e n m) := hl.out 14 rfl
                      have qc : ∀ x, a.eval (.const x) = x := fun _ => rfl
                      refine Reg.does_is (x := .string (txtS bs e n m)) rfl rfl ?_
                      clear hl
                      generalize a.eval = ρ at *
                      go_simp
                    · intro w1 w2 hb1 ht
                      refine ⟨?_, ?_, ?_, trivial⟩
                      · intro o ho a w hl   -- 12: slot 118
                        cases ho
                        have q14 : a.eval (.tmp 14) = .string (txtS bs e n m) := hl.out 14 rfl
                        have qc : ∀ x, a.eval (.const x) = x := fun _ => rfl
                        refine Reg.does_is (x := .string (txtS bs e n m)) rfl rfl ?_
                        clear hl
                        generalize a.eval = ρ at *
                        go_simp
                      · intro o ho a w hl   -- 13: slot 119
                        cases ho
                        have q117 : a.eval (.tmp 117) = .string (txtS bs e n m) := hl.has 11 rfl
                        have q118 : a.eval (.tmp 118) = .string (txtS bs e n m) := hl.has 12 rfl
                        have qc : ∀ x, a.eval (.const x) = x := fun _ => rfl
                        refine Reg.does_is (x := .bool true) rfl rfl ?_
                        clear hl
                        generalize a.eval = ρ at *
                        go_simp
                      · intro o ho a w hl   -- 14: slot 8
                        cases ho
                        have q119 : a.eval (.tmp 119) = .bool true := hl.has 13 rfl
                        have qc : ∀ x, a.eval (.const x) = x := fun _ => rfl
                        refine Reg.does_is (x := .bool true) rfl rfl ?_
                        clear hl
                        generalize a.eval = ρ at *
                        go_simp
                    · rintro v w1 w2 w hb1 ht hb ⟨e106, e107, e108, e109, e110, e111, e112, e113, e114, e115, e116, e117, e118, e119, e8, _⟩
                      replace e106 : v 0 = .pointer (some ⟨g, 0, none⟩) := e106
                      replace e107 : v 1 = .slice (some ad) l.length c1 := e107
                      replace e108 : v 2 = .int .i64 (i : Int) := e108
                      replace e109 : v 3 = .pointer (some (ad.add (i * 3))) := e109
                      replace e110 : v 4 = .pointer (some ((ad.add (i * 3)).add 1)) := e110
                      replace e111 : v 5 = .int .i64 n := e111
                      replace e112 : v 6 = .slice (some ad) l.length c1 := e112
                      replace e113 : v 7 = .int .i64 (i : Int) := e113
                      replace e114 : v 8 = .pointer (some (ad.add (i * 3))) := e114
                      replace e115 : v 9 = .pointer (some ((ad.add (i * 3)).add 2)) := e115
                      replace e116 : v 10 = .int .i64 m := e116
                      replace e117 : v 11 = .string (txtS bs e n m) := e117
                      replace e118 : v 12 = .string (txtS bs e n m) := e118
                      replace e119 : v 13 = .bool true := e119
                      replace e8 : v 14 = .bool true := e8
                      simp only [Reg.putL, Act.put, List.setIfInBounds_toArray, List.set_cons_zero, List.set_cons_succ, e106, e107, e108, e109, e110, e111, e112, e113, e114, e115, e116, e117, e118, e119, e8]
                      clear e106 e107 e108 e109 e110 e111 e112 e113 e114 e115 e116 e117 e118 e119 e8
                      have HAF := Aside0.mk (after_call HB6.out HWS.out.2.1 (by have := HWS.out; omega) HNG.out HU.out.2.1 HU.out.2.2.1 (ht.2.below hb) (((Keeps.of_below hb1 _).trans ht.1).then_below hb))
                      clear hb hb1 ht
                      go_wp2_with fail
                      go_meet
                      case rel => exact ⟨by simp, _, _, _, _, ⟨HS.out.txt n m⟩, ⟨HAF.out.rd⟩, ⟨HAF.out.st⟩, ⟨HAF.out.by_⟩, ⟨HAF.out.below⟩⟩
              · have e2 : (kind == 2) = false := by simp [q2]
                by_cases q3 : kind = 3
                · subst q3
                  as_aux_lemma =>
                    have s2 := blk_frozen HST.out 0
                    go_upto_region 25 with fail
                    go_cut [] from 27 to 159 (fun wx => ∃ (w5 : World) (A : Option Addr) (c : Nat), wx = (w5.setCell ⟨S, 0, none⟩ (.slice A (zerB bs e n).length c)).setCell ⟨S, 1, none⟩ (.int .i64 (zerE bs e n)) ∧ Aside0 (Below wc.heap.size wc w5) ∧ Aside0 (Bys (zerB bs e n) (.slice A (zerB bs e n).length c) w5))
                    case first =>
                      refine wp_region_any (by kernel_rfl) ?_
                      change wpAny _ _ _ _ _ _ _ (World.drew _)
                      refine wpAny_take (i := 1) (v := ?_) rfl (by kernel_rfl) (by kernel_rfl) (by kernel_rfl) (fun _ _ _ h => h) (Or.inl ⟨by rfl, ?_⟩) ?_
                      rotate_left 1
                      · intro w; first | (go_simp; done) | (go_simp; with_reducible rfl)
                      refine wpAny_take (i := 2) (v := ?_) rfl (by kernel_rfl) (by kernel_rfl) (by kernel_rfl) (fun _ _ _ h => h) (Or.inl ⟨by rfl, ?_⟩) ?_
                      rotate_left 1
                      · intro w; first | (go_simp; done) | (go_simp; with_reducible rfl)
                      refine wpAny_take (i := 3) (v := ?_) rfl (by kernel_rfl) (by kernel_rfl) (by kernel_rfl) (fun _ _ _ h => h) (Or.inl ⟨by rfl, ?_⟩) ?_
                      rotate_left 1
                      · intro w; first | (go_simp; done) | (go_simp; with_reducible rfl)
                      refine wpAny_take (i := 4) (v := ?_) rfl (by kernel_rfl) (by kernel_rfl) (by kernel_rfl) (fun _ _ _ h => h) (Or.inl ⟨by rfl, ?_⟩) ?_
                      rotate_left 1
                      · intro w; first | (go_simp; done) | (go_simp; with_reducible rfl)
                      refine wpAny_ready (rs := [0, 5]) (by kernel_rfl) (by simp) ?_
                      refine AllReady.cons rfl (fun K hK => ?_) ?_
                      · skip
                        go_simp
                        refine hK _ _ ?_
                        clear hK K
                        refine wpAny_ready (rs := [5]) (by kernel_rfl) (by simp) ?_
                        refine AllReady.cons rfl (fun K hK => ?_) AllReady.nil
                        go_simp
                        refine hK _ _ ?_
                        clear hK K
                        refine wpAny_ready (rs := [6]) (by kernel_rfl) (by simp) ?_
                        refine AllReady.cons rfl (fun K hK => ?_) AllReady.nil
                        go_simp
                        refine (rzer_any (HI.out.mono B1.out) HS.out n).mono ?_
                        rintro en w5 ⟨v5, rfl, ⟨A5, c5, rfl, hc5, hC5⟩, hb⟩
                        have HN5 := Aside0.mk (show Bys _ (.slice A5 (zerB bs e n).length c5) w5 from ⟨A5, c5, rfl, hc5, hC5⟩)
                        have HB5 := Aside0.mk (show Below wc.heap.size wc w5 from below_step B1.out hb)
                        have hst := blk_below HST.out HB5.out
                        have HZ := Aside0.mk hst
                        have z0 := (blk_cell hst 0).trans rfl
                        have z1 := (blk_cell hst 1).trans rfl
                        have y0 := blk_frozen hst 0
                        have y1 := blk_frozen hst 1
                        clear hb hc5 hC5 hst
                        go_simp
                        refine hK _ _ ?_
                        clear hK K
                        refine wpAny_ready (rs := [7]) (by kernel_rfl) (by simp) ?_
                        refine AllReady.cons rfl (fun K hK => ?_) AllReady.nil
                        go_simp
                        refine hK _ _ ?_
                        clear hK K
                        refine wpAny_done (by kernel_rfl) ?_ _
                        try go_simp
                        go_wp2_with fail
                        go_meet
                        case rel => exact ⟨w5, A5, c5, rfl, ⟨HB5.out⟩, HN5⟩
                      refine AllReady.cons rfl (fun K hK => ?_) AllReady.nil
                      go_simp
                      refine hK _ _ ?_
                      clear hK K
                      refine wpAny_ready (rs := [0]) (by kernel_rfl) (by simp) ?_
                      refine AllReady.cons rfl (fun K hK => ?_) AllReady.nil
                      go_simp
                      refine hK _ _ ?_
                      clear hK K
                      refine wpAny_ready (rs := [6]) (by kernel_rfl) (by simp) ?_
                      refine AllReady.cons rfl (fun K hK => ?_) AllReady.nil
                      go_simp
                      refine (rzer_any (HI.out.mono B1.out) HS.out n).mono ?_
                      rintro en w5 ⟨v5, rfl, ⟨A5, c5, rfl, hc5, hC5⟩, hb⟩
                      have HN5 := Aside0.mk (show Bys _ (.slice A5 (zerB bs e n).length c5) w5 from ⟨A5, c5, rfl, hc5, hC5⟩)
                      have HB5 := Aside0.mk (show Below wc.heap.size wc w5 from below_step B1.out hb)
                      have hst := blk_below HST.out HB5.out
                      have HZ := Aside0.mk hst
                      have z0 := (blk_cell hst 0).trans rfl
                      have z1 := (blk_cell hst 1).trans rfl
                      have y0 := blk_frozen hst 0
                      have y1 := blk_frozen hst 1
                      clear hb hc5 hC5 hst
                      go_simp
                      refine hK _ _ ?_
                      clear hK K
                      refine wpAny_ready (rs := [7]) (by kernel_rfl) (by simp) ?_
                      refine AllReady.cons rfl (fun K hK => ?_) AllReady.nil
                      go_simp
                      refine hK _ _ ?_
                      clear hK K
                      refine wpAny_done (by kernel_rfl) ?_ _
                      try go_simp
                      go_wp2_with fail
                      go_meet
                      case rel => exact ⟨w5, A5, c5, rfl, ⟨HB5.out⟩, HN5⟩
                    case rest =>
                      obtain ⟨w5, A2, c2, hw, HB5, HN5⟩ := hcut
                      have HU := Aside0.mk (upd (S := S) (e2 := zerE bs e n) (blk_below HST.out HB5.out) (HR.out.below HB5.out) (by have := HWS.out; omega) HN5.out)
                      have HB6 := Aside0.mk (Keeps.below_then (below_step HB.out HB5.out) (Nat.le_refl _) HU.out.2.2.2 (fun i hi => by have h1 := HWS.out; have h2 : i = S := hi; omega))
                      have cn := (HB6.out.cell (World.block_lt_of_cell? w _ HCN.out)).trans HCN.out
                      rw [hw]
                      generalize (w5.setCell ⟨S, 0, none⟩ (.slice A2 (zerB bs e n).length c2)).setCell ⟨S, 1, none⟩ (.int .i64 (zerE bs e n)) = w6 at HU HB6 cn ⊢
                      clear hw n1 n2 cnB cmB kB0 kB1 B1 B2 cm k0 k1
                      have HZR := Aside0.mk (zer_any HU.out.1 n)
                      go_wp2_with fail
                      refine HZR.out.mono ?_
                      rintro en w7 ⟨⟨v, rfl⟩, hr, hk⟩
                      have HAF := Aside0.mk (after_call HB6.out HWS.out.2.1 (by have := HWS.out; omega) (HU.out.1.noByte) HU.out.2.1 HU.out.2.2.1 hr hk)
                      clear hr hk cn
                      go_wp2_with fail
                      go_meet
                      case rel => exact ⟨rfl, _, _, _, _, ⟨HS.out.zer n⟩, ⟨HAF.out.rd⟩, ⟨HAF.out.st⟩, ⟨HAF.out.by_⟩, ⟨HAF.out.below⟩⟩
                · have e3 : (kind == 3) = false := by simp [q3]
                  go_wp2_with fail
                  go_meet
                  case rel => exact ⟨rfl, bs, e, Ab, cb, HS, HR, HST, HI, HB⟩
        case rest =>
          clear HR HST HI HB HCN HCM ca HS
          obtain ⟨rfl, bs', e', A', c', HS, HR, HST, HI, HB⟩ := hcut
          obtain ⟨ee, hee⟩ : ∃ ee : Int, (if e' = 0 then (if bs' = [] then 0 else 6) else e') = ee := ⟨_, rfl⟩
          have HEE := Aside0.mk hee
          clear hee
          go_upto_region 27 with fail
          refine Reg.region_list [Reg.Is (.bool true), Reg.Is (.bool false), Reg.Is (.bool false), Reg.Is (.pointer (some ⟨g, 0, none⟩)), Reg.Is (.int .i64 (bs'.length : Int)), Reg.Is (.pointer (some ⟨S, 0, none⟩)), Reg.Is (.slice A' bs'.length c'), Reg.Is (.int .i64 (bs'.length : Int)), Reg.Is (.bool false), Reg.Is (.bool false), Reg.Is (.bool false), Reg.Is (.pointer (some ⟨g, 0, none⟩)), Reg.Is (.int .i64 e'), Reg.Is (.pointer (some ⟨S, 1, none⟩)), Reg.Is (.int .i64 e'), Reg.Is (.bool false), Reg.Is (.bool false), Reg.Is (.bool false), Reg.Is (.pointer (some ⟨g, 0, none⟩)), Reg.Is (.int .i64 ee), Reg.Is (.agg #[.slice A' bs'.length c', .int .i64 e']), Reg.Is (.int .i64 ee), Reg.Is (.bool false), Reg.Is (.bool false)]
              [some 136, some 137, some 138, some 139, some 140, some 141, some 142, some 143, some 144, some 145, some 146, some 147, some 148, some 149, some 150, some 151, some 152, some 153, some 154, some 155, some 156, some 157, some 158, some 159] (by kernel_rfl) (by rfl) (by rfl) (by rfl) rfl ⟨Reg.mono_is _, Reg.mono_is _, Reg.mono_is _, Reg.mono_is _, Reg.mono_is _, Reg.mono_is _, Reg.mono_is _, Reg.mono_is _, Reg.mono_is _, Reg.mono_is _, Reg.mono_is _, Reg.mono_is _, Reg.mono_is _, Reg.mono_is _, Reg.mono_is _, Reg.mono_is _, Reg.mono_is _, Reg.mono_is _, Reg.mono_is _, Reg.mono_is _, Reg.mono_is _, Reg.mono_is _, Reg.mono_is _, Reg.mono_is _, trivial⟩ (Reg.noneOk_of (by rfl)) ⟨?_, ?_, ?_, ?_, ?_, ?_, ?_, ?_, ?_, ?_, ?_, ?_, ?_, ?_, ?_, ?_, ?_, ?_, ?_, ?_, ?_, ?_, ?_, ?_, trivial⟩ ?_
          · intro a w hl   -- 0: slot 136
            have q8 : a.eval (.tmp 8) = .bool true := hl.out 8 rfl
            have qc : ∀ x, a.eval (.const x) = x := fun _ => rfl
            refine Reg.does_is (x := .bool true) rfl rfl ?_
            clear hl
            generalize a.eval = ρ at *
            go_simp
          · intro a w hl   -- 1: slot 137
            have q136 : a.eval (.tmp 136) = .bool true := hl.has 0 rfl
            have qc : ∀ x, a.eval (.const x) = x := fun _ => rfl
            refine Reg.does_is (x := .bool false) rfl rfl ?_
            clear hl
            generalize a.eval = ρ at *
            go_simp
          · intro a w hl   -- 2: slot 138
            have q137 : a.eval (.tmp 137) = .bool false := hl.has 1 rfl
            have qc : ∀ x, a.eval (.const x) = x := fun _ => rfl
            refine Reg.does_is (x := .bool false) rfl rfl ?_
            clear hl
            generalize a.eval = ρ at *
            go_simp
          · intro a w hl   -- 3: slot 139
            have q5 : a.eval (.tmp 5) = .pointer (some ⟨g, 0, none⟩) := hl.out 5 rfl
            have q138 : a.eval (.tmp 138) = .bool false := hl.has 2 rfl
            have qc : ∀ x, a.eval (.const x) = x := fun _ => rfl
            refine Reg.does_is (x := .pointer (some ⟨g, 0, none⟩)) rfl (Reg.wanted_of rfl rfl (hl.yields 2 rfl rfl q138)) ?_
            clear hl
            generalize a.eval = ρ at *
            go_simp
          · intro a w hl   -- 4: slot 140
            have q139 : a.eval (.tmp 139) = .pointer (some ⟨g, 0, none⟩) := hl.has 3 rfl
            have q138 : a.eval (.tmp 138) = .bool false := hl.has 2 rfl
            have qc : ∀ x, a.eval (.const x) = x := fun _ => rfl
            refine Reg.does_call_is (x := .int .i64 (bs'.length : Int)) #[.pointer (some ⟨g, 0, none⟩)] rfl (Reg.wanted_of rfl rfl (hl.yields 2 rfl rfl q138)) Try.func23 (by kernel_rfl) rfl rfl (by simp [qc, q139]) ?_
            exact left_below (HR.out.below hl.below)
          · intro a w hl   -- 5: slot 141
            have q6 : a.eval (.tmp 6) = .pointer (some ⟨S, 0, none⟩) := hl.out 6 rfl
            have q138 : a.eval (.tmp 138) = .bool false := hl.has 2 rfl
            have qc : ∀ x, a.eval (.const x) = x := fun _ => rfl
            refine Reg.does_is (x := .pointer (some ⟨S, 0, none⟩)) rfl (Reg.wanted_of rfl rfl (hl.yields 2 rfl rfl q138)) ?_
            clear hl
            generalize a.eval = ρ at *
            go_simp
          · intro a w hl   -- 6: slot 142
            have q141 : a.eval (.tmp 141) = .pointer (some ⟨S, 0, none⟩) := hl.has 5 rfl
            have q138 : a.eval (.tmp 138) = .bool false := hl.has 2 rfl
            have qc : ∀ x, a.eval (.const x) = x := fun _ => rfl
            refine Reg.does_is (x := .slice A' bs'.length c') rfl (Reg.wanted_of rfl rfl (hl.yields 2 rfl rfl q138)) ?_
            have hst := blk_below HST.out hl.below
            have k0 := (blk_cell hst 0).trans rfl
            have k1 := (blk_cell hst 1).trans rfl
            clear hl hst
            generalize a.eval = ρ at *
            go_simp
          · intro a w hl   -- 7: slot 143
            have q142 : a.eval (.tmp 142) = .slice A' bs'.length c' := hl.has 6 rfl
            have q138 : a.eval (.tmp 138) = .bool false := hl.has 2 rfl
            have qc : ∀ x, a.eval (.const x) = x := fun _ => rfl
            refine Reg.does_is (x := .int .i64 (bs'.length : Int)) rfl (Reg.wanted_of rfl rfl (hl.yields 2 rfl rfl q138)) ?_
            clear hl
            generalize a.eval = ρ at *
            go_simp
          · intro a w hl   -- 8: slot 144
            have q140 : a.eval (.tmp 140) = .int .i64 (bs'.length : Int) := hl.has 4 rfl
            have q143 : a.eval (.tmp 143) = .int .i64 (bs'.length : Int) := hl.has 7 rfl
            have q138 : a.eval (.tmp 138) = .bool false := hl.has 2 rfl
            have qc : ∀ x, a.eval (.const x) = x := fun _ => rfl
            refine Reg.does_is (x := .bool false) rfl (Reg.wanted_of rfl rfl (hl.yields 2 rfl rfl q138)) ?_
            clear hl
            generalize a.eval = ρ at *
            go_simp
          · intro a w hl   -- 9: slot 145
            have q138 : a.eval (.tmp 138) = .bool false := hl.has 2 rfl
            have q144 : a.eval (.tmp 144) = .bool false := hl.has 8 rfl
            have qc : ∀ x, a.eval (.const x) = x := fun _ => rfl
            refine Reg.does_is (x := .bool false) rfl rfl ?_
            clear hl
            generalize a.eval = ρ at *
            go_simp
          · intro a w hl   -- 10: slot 146
            have q145 : a.eval (.tmp 145) = .bool false := hl.has 9 rfl
            have qc : ∀ x, a.eval (.const x) = x := fun _ => rfl
            refine Reg.does_is (x := .bool false) rfl rfl ?_
            clear hl
            generalize a.eval = ρ at *
            go_simp
          · intro a w hl   -- 11: slot 147
            have q5 : a.eval (.tmp 5) = .pointer (some ⟨g, 0, none⟩) := hl.out 5 rfl
            have q146 : a.eval (.tmp 146) = .bool false := hl.has 10 rfl
            have qc : ∀ x, a.eval (.const x) = x := fun _ => rfl
            refine Reg.does_is (x := .pointer (some ⟨g, 0, none⟩)) rfl (Reg.wanted_of rfl rfl (hl.yields 10 rfl rfl q146)) ?_
            clear hl
            generalize a.eval = ρ at *
            go_simp
          · intro a w hl   -- 12: slot 148
            have q147 : a.eval (.tmp 147) = .pointer (some ⟨g, 0, none⟩) := hl.has 11 rfl
            have q146 : a.eval (.tmp 146) = .bool false := hl.has 10 rfl
            have qc : ∀ x, a.eval (.const x) = x := fun _ => rfl
            refine Reg.does_call_is (x := .int .i64 e') #[.pointer (some ⟨g, 0, none⟩)] rfl (Reg.wanted_of rfl rfl (hl.yields 10 rfl rfl q146)) Try.func24 (by kernel_rfl) rfl rfl (by simp [qc, q147]) ?_
            exact err_below (HR.out.below hl.below)
          · intro a w hl   -- 13: slot 149
            have q6 : a.eval (.tmp 6) = .pointer (some ⟨S, 0, none⟩) := hl.out 6 rfl
            have q146 : a.eval (.tmp 146) = .bool false := hl.has 10 rfl
            have qc : ∀ x, a.eval (.const x) = x := fun _ => rfl
            refine Reg.does_is (x := .pointer (some ⟨S, 1, none⟩)) rfl (Reg.wanted_of rfl rfl (hl.yields 10 rfl rfl q146)) ?_
            clear hl
            generalize a.eval = ρ at *
            go_simp
          · intro a w hl   -- 14: slot 150
            have q149 : a.eval (.tmp 149) = .pointer (some ⟨S, 1, none⟩) := hl.has 13 rfl
            have q146 : a.eval (.tmp 146) = .bool false := hl.has 10 rfl
            have qc : ∀ x, a.eval (.const x) = x := fun _ => rfl
            refine Reg.does_is (x := .int .i64 e') rfl (Reg.wanted_of rfl rfl (hl.yields 10 rfl rfl q146)) ?_
            have hst := blk_below HST.out hl.below
            have k0 := (blk_cell hst 0).trans rfl
            have k1 := (blk_cell hst 1).trans rfl
            clear hl hst
            generalize a.eval = ρ at *
            go_simp
          · intro a w hl   -- 15: slot 151
            have q148 : a.eval (.tmp 148) = .int .i64 e' := hl.has 12 rfl
            have q150 : a.eval (.tmp 150) = .int .i64 e' := hl.has 14 rfl
            have q146 : a.eval (.tmp 146) = .bool false := hl.has 10 rfl
            have qc : ∀ x, a.eval (.const x) = x := fun _ => rfl
            refine Reg.does_is (x := .bool false) rfl (Reg.wanted_of rfl rfl (hl.yields 10 rfl rfl q146)) ?_
            clear hl
            generalize a.eval = ρ at *
            go_simp
          · intro a w hl   -- 16: slot 152
            have q146 : a.eval (.tmp 146) = .bool false := hl.has 10 rfl
            have q151 : a.eval (.tmp 151) = .bool false := hl.has 15 rfl
            have qc : ∀ x, a.eval (.const x) = x := fun _ => rfl
            refine Reg.does_is (x := .bool false) rfl rfl ?_
            clear hl
            generalize a.eval = ρ at *
            go_simp
          · intro a w hl   -- 17: slot 153
            have q152 : a.eval (.tmp 152) = .bool false := hl.has 16 rfl
            have qc : ∀ x, a.eval (.const x) = x := fun _ => rfl
            refine Reg.does_is (x := .bool false) rfl rfl ?_
            clear hl
            generalize a.eval = ρ at *
            go_simp
          · intro a w hl   -- 18: slot 154
            have q5 : a.eval (.tmp 5) = .pointer (some ⟨g, 0, none⟩) := hl.out 5 rfl
            have q153 : a.eval (.tmp 153) = .bool false := hl.has 17 rfl
            have qc : ∀ x, a.eval (.const x) = x := fun _ => rfl
            refine Reg.does_is (x := .pointer (some ⟨g, 0, none⟩)) rfl (Reg.wanted_of rfl rfl (hl.yields 17 rfl rfl q153)) ?_
            clear hl
            generalize a.eval = ρ at *
            go_simp
          · intro a w hl   -- 19: slot 155
            have q154 : a.eval (.tmp 154) = .pointer (some ⟨g, 0, none⟩) := hl.has 18 rfl
            have q153 : a.eval (.tmp 153) = .bool false := hl.has 17 rfl
            have qc : ∀ x, a.eval (.const x) = x := fun _ => rfl
            refine Reg.does_call_is (x := .int .i64 ee) #[.pointer (some ⟨g, 0, none⟩)] rfl (Reg.wanted_of rfl rfl (hl.yields 17 rfl rfl q153)) Try.func15 (by kernel_rfl) rfl rfl (by simp [qc, q154]) ?_
            rw [← HEE.out]
            exact end_below (HR.out.below hl.below)
          · intro a w hl   -- 20: slot 156
            have q6 : a.eval (.tmp 6) = .pointer (some ⟨S, 0, none⟩) := hl.out 6 rfl
            have q153 : a.eval (.tmp 153) = .bool false := hl.has 17 rfl
            have qc : ∀ x, a.eval (.const x) = x := fun _ => rfl
            refine Reg.does_is (x := .agg #[.slice A' bs'.length c', .int .i64 e']) rfl (Reg.wanted_of rfl rfl (hl.yields 17 rfl rfl q153)) ?_
            have hst := blk_below HST.out hl.below
            have k0 := (blk_cell hst 0).trans rfl
            have k1 := (blk_cell hst 1).trans rfl
            clear hl hst
            generalize a.eval = ρ at *
            go_simp
          · intro a w hl   -- 21: slot 157
            have q156 : a.eval (.tmp 156) = .agg #[.slice A' bs'.length c', .int .i64 e'] := hl.has 20 rfl
            have q153 : a.eval (.tmp 153) = .bool false := hl.has 17 rfl
            have qc : ∀ x, a.eval (.const x) = x := fun _ => rfl
            refine Reg.does_call_is (x := .int .i64 ee) #[.agg #[.slice A' bs'.length c', .int .i64 e']] rfl (Reg.wanted_of rfl rfl (hl.yields 17 rfl rfl q153)) Try.func25 (by kernel_rfl) rfl rfl (by simp [qc, q156]) ?_
            rw [← HEE.out]
            exact rend_calls e' (HI.out.mono hl.below)
          · intro a w hl   -- 22: slot 158
            have q155 : a.eval (.tmp 155) = .int .i64 ee := hl.has 19 rfl
            have q157 : a.eval (.tmp 157) = .int .i64 ee := hl.has 21 rfl
            have q153 : a.eval (.tmp 153) = .bool false := hl.has 17 rfl
            have qc : ∀ x, a.eval (.const x) = x := fun _ => rfl
            refine Reg.does_is (x := .bool false) rfl (Reg.wanted_of rfl rfl (hl.yields 17 rfl rfl q153)) ?_
            clear hl
            generalize a.eval = ρ at *
            go_simp
          · intro a w hl   -- 23: slot 159
            have q153 : a.eval (.tmp 153) = .bool false := hl.has 17 rfl
            have q158 : a.eval (.tmp 158) = .bool false := hl.has 22 rfl
            have qc : ∀ x, a.eval (.const x) = x := fun _ => rfl
            refine Reg.does_is (x := .bool false) rfl rfl ?_
            clear hl
            generalize a.eval = ρ at *
            go_simp
          · rintro v w hb ⟨e136, e137, e138, e139, e140, e141, e142, e143, e144, e145, e146, e147, e148, e149, e150, e151, e152, e153, e154, e155, e156, e157, e158, e159, _⟩
            replace e136 : v 0 = .bool true := e136
            replace e137 : v 1 = .bool false := e137
            replace e138 : v 2 = .bool false := e138
            replace e139 : v 3 = .pointer (some ⟨g, 0, none⟩) := e139
            replace e140 : v 4 = .int .i64 (bs'.length : Int) := e140
            replace e141 : v 5 = .pointer (some ⟨S, 0, none⟩) := e141
            replace e142 : v 6 = .slice A' bs'.length c' := e142
            replace e143 : v 7 = .int .i64 (bs'.length : Int) := e143
            replace e144 : v 8 = .bool false := e144
            replace e145 : v 9 = .bool false := e145
            replace e146 : v 10 = .bool false := e146
            replace e147 : v 11 = .pointer (some ⟨g, 0, none⟩) := e147
            replace e148 : v 12 = .int .i64 e' := e148
            replace e149 : v 13 = .pointer (some ⟨S, 1, none⟩) := e149
            replace e150 : v 14 = .int .i64 e' := e150
            replace e151 : v 15 = .bool false := e151
            replace e152 : v 16 = .bool false := e152
            replace e153 : v 17 = .bool false := e153
            replace e154 : v 18 = .pointer (some ⟨g, 0, none⟩) := e154
            replace e155 : v 19 = .int .i64 ee := e155
            replace e156 : v 20 = .agg #[.slice A' bs'.length c', .int .i64 e'] := e156
            replace e157 : v 21 = .int .i64 ee := e157
            replace e158 : v 22 = .bool false := e158
            replace e159 : v 23 = .bool false := e159
            simp only [Reg.putL, Act.put, List.setIfInBounds_toArray, List.set_cons_zero, List.set_cons_succ, e136, e137, e138, e139, e140, e141, e142, e143, e144, e145, e146, e147, e148, e149, e150, e151, e152, e153, e154, e155, e156, e157, e158, e159]
            clear e136 e137 e138 e139 e140 e141 e142 e143 e144 e145 e146 e147 e148 e149 e150 e151 e152 e153 e154 e155 e156 e157 e158 e159
            have HB9 := Aside0.mk (below_step HB.out hb)
            have HR9 := Aside0.mk (HR.out.below hb)
            have HST9 := Aside0.mk (blk_below HST.out hb)
            have HI9 := Aside0.mk (HI.out.mono hb)
            clear hb
            go_wp2_with fail
            go_roundg (60 - i)
            case measure => have := HI0.out; omega
            case rel => exact ⟨i + 1, bs', e', A', c', by simp, ⟨by omega, by omega⟩, HS, HR9, HST9, HI9, HB9⟩

theorem reads_calls {w : World} {v : Value} {bs : List Int} (h : Bys bs v w) (hl : bs.length ≤ 140737488351232) (hb : Byte bs) (A1 : Option Addr) (c1 : Nat) (l : List (Int × Int × Int)) (hD : Kd.C kAct w A1 l.length l) (hd : l.length ≤ c1) :
    Calls Try.prog 6 #[v, .slice A1 l.length c1] w fun e w' => e = .returned (.bool true) ∧ Below w.heap.size w w' := by
  by_cases h2 : 3000 < bs.length
  · exact reads_long h hl h2
  · exact reads_short h ⟨hb, by omega, fun h => absurd rfl h⟩ A1 c1 l hD hd
end Go.Proofs.Ytceaddpbebaldaa.Word
