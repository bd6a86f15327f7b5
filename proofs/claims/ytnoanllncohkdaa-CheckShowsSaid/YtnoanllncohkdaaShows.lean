/- CheckShows: what the law's call comes to. -/
import Derived.Test.YtnoanllncohkdaaParts
import Derived.RegionTactic
import Derived.ChangeAlike
import Derived.IntWalk
namespace Go.Proofs.Ytnoanllncohkdaa.Q
open Go.RowKit Go.Proofs.YtnoanllncohkdaaW.PrintWords Go.Proofs.YtnoanllncohkdaaW.PrintLast Go.Proofs.YtnoanllncohkdaaW.PrintMore
open Go.Proofs.Ytnoanllncohkdaa.Math Go.Proofs.Ytnoanllncohkdaa.Vals Go.Proofs.Ytnoanllncohkdaa
set_option linter.unusedVariables false
set_option linter.unusedSimpArgs false

/-- A block of numbers, its first ones being xs. -/
def Blk (w : World) (g : Nat) (xs : List Int) : Prop := ∃ cur : Array Value, w.heap[g]? = some (.cells cur 5 (0, 0)) ∧ xs.length ≤ cur.size ∧ ∀ i : Nat, i < xs.length → cur[i]? = some (.int .u8 (xs.getD i 0))

theorem Blk.mono {w w' : World} {g : Nat} {xs : List Int} (h : Blk w g xs) (hb : Below w.heap.size w w') : Blk w' g xs := by
  obtain ⟨cur, h1, h2⟩ := h
  exact ⟨cur, blk_below h1 hb, h2⟩
theorem Blk.cell {w : World} {g : Nat} {xs : List Int} (h : Blk w g xs) {i : Nat} (hi : i < xs.length) : w.cell? ⟨g, i, none⟩ = some (.int .u8 (xs.getD i 0)) := by
  obtain ⟨cur, h1, h2, h3⟩ := h
  rw [blk_cell h1, h3 i hi]
theorem Blk.frozen {w : World} {g : Nat} {xs : List Int} (h : Blk w g xs) (i : Nat) : w.frozen? ⟨g, i, none⟩ = false := by
  obtain ⟨cur, h1, _⟩ := h
  exact blk_frozen h1 i
theorem Blk.set {w : World} {g : Nat} {xs : List Int} (h : Blk w g xs) (i : Nat) (x : Int) : Blk (w.setCell ⟨g, i, none⟩ (.int .u8 x)) g (xs.set i x) := by
  obtain ⟨cur, h1, h2, h3⟩ := h
  refine ⟨cur.setIfInBounds i (.int .u8 x), blk_set h1 i _, by simpa using h2, fun j hj => ?_⟩
  rw [List.length_set] at hj
  by_cases e : i = j
  · subst e
    rw [Array.getElem?_setIfInBounds_self_of_lt (by omega), List.getD_eq_getElem?_getD, List.getElem?_set_self hj]
    rfl
  · rw [Array.getElem?_setIfInBounds_ne e, h3 j hj, List.getD_eq_getElem?_getD, List.getD_eq_getElem?_getD, List.getElem?_set_ne e]
theorem Blk.reads {w : World} {g : Nat} {xs : List Int} (h : Blk w g xs) (hm : xs.length ≤ 9223372036854775807) : Kd.C (Kd.int .u8) w (some ⟨g, 0, none⟩) xs.length xs := by
  obtain ⟨cur, h1, h2, h3⟩ := h
  refine C_row rfl h1 h2 hm (fun i x v hx hv => ?_)
  have hi := (List.getElem?_eq_some_iff.1 hx).1
  rw [h3 i hi] at hv
  injection hv with hv
  rw [← hv, List.getD_eq_getElem?_getD, hx]
  rfl
theorem Blk.of_own {w : World} {base : Nat} {ok : Nat → Prop} {v : Value} {xs : List Int} (h : Kd.R (Kd.int .u8) 5 w base ok v xs) (hp : 0 < xs.length) : ∃ g cap, v = .slice (some ⟨g, 0, none⟩) xs.length cap ∧ base ≤ g ∧ xs.length ≤ cap ∧ Blk w g xs := by
  obtain ⟨A, c, hv, hl, hC⟩ := Kd.R_reads h
  obtain ⟨inner, ho⟩ := Kd.R_own h
  subst hv
  rcases ho.2 with ⟨h1, h2⟩ | ⟨g, cap, cur, h1, hg, hh, r⟩
  · injection h1 with _ h1 _
    omega
  · injection h1 with h0 h1' hcap
    subst h0
    obtain ⟨_, _, hcells⟩ := hC
    obtain ⟨ad, had, hc⟩ := hcells hp
    injection had with had
    subst had
    refine ⟨g, c, rfl, hg, hl, cur, hh, ?_, ?_⟩
    · have hcc : ∀ i, i < xs.length → i < cur.size := by
        intro i hi
        obtain ⟨cs, _, hk, hcell⟩ := hc i _ (List.getElem?_eq_getElem hi)
        rw [hk] at hcell
        have := hcell 0 _ rfl
        rw [show (Kd.int .u8).sz = 1 from rfl, add_plain, blk_cell hh] at this
        have := (Array.getElem?_eq_some_iff.1 this).1
        omega
      have := hcc (xs.length - 1) (by omega)
      omega
    · intro i hi
      obtain ⟨cs, _, hk, hcell⟩ := hc i _ (List.getElem?_eq_getElem hi)
      rw [hk] at hcell
      have := hcell 0 _ rfl
      rw [show (Kd.int .u8).sz = 1 from rfl, add_plain, blk_cell hh] at this
      rw [List.getD_eq_getElem?_getD, List.getElem?_eq_getElem hi]
      simpa using this

theorem R_empty {α : Type} (d : Kd α) (W : World) (base e : Nat) (hb : base ≤ W.heap.size) : d.R e (W.alloc (.cells #[] e)) base (fun _ => True) (.slice (some ⟨W.heap.size, 0, none⟩) 0 0) [] :=
  ⟨fun _ _ => trivial, OwnRow.lit W base (Reps.none _ _) hb (by simp)⟩

/-- A row of one list, laid behind: what Sum is called with. -/
theorem row1 {w : World} {A : Option Addr} {n c : Nat} {l : List Int} (hl : l.length = n) (hc : n ≤ c) (h : Kd.C (Kd.int .u8) w A n l) (s : Nat) (hs : w.heap.size = s) :
    Kd.C (Kd.slice 5 (Kd.int .u8)) (w.alloc (.cells #[.slice A n c] 24)) (some ⟨s, 0, none⟩) ([l] : List (List Int)).length [l] := by
  subst hl; subst hs
  obtain ⟨A', c', h1, h2, h3⟩ := lit1 (d := Kd.slice 5 (Kd.int .u8)) (x := l) (u := .slice A l.length c) (w := w) (t := 24) rfl ((IsL.slice_ 5).2 ⟨A, c, rfl, hc, h⟩)
  injection h1 with h1
  subst h1
  exact h3
theorem bys1 {l : List Int} (h : By l) (hn : l.length ≤ 140737488351232) : Bys [l] := fun x hx => by rw [List.mem_singleton.1 hx]; exact ⟨h, hn⟩
theorem By.set {l : List Int} (h : By l) (k : Nat) {x : Int} (hx : 0 ≤ x ∧ x ≤ 255) : By (l.set k x) := fun c hc => by
  rcases List.mem_or_eq_of_mem_set hc with hc | rfl
  · exact h c hc
  · exact hx

theorem sum1_calls (l : List Int) {A : Option Addr} {w : World} (hC : Kd.C (Kd.slice 5 (Kd.int .u8)) w A ([l] : List (List Int)).length [l]) (hb : By l) (hn : l.length ≤ 140737488351232) :
    Calls Try.prog 9 #[.slice A 1 1] w fun e w' => e = .returned (.int .u32 (M 1 l)) ∧ Below w.heap.size w w' := by
  have := sum_calls [l] (c := 1) (by simp) hC (by simp) (bys1 hb hn)
  rw [show List.flatten [l] = l by simp] at this
  exact this

set_option maxHeartbeats 1000000 in
set_option maxRecDepth 100000 in
theorem shows_calls (A0 : Option Addr) (c0 : Nat) (l0 : List Int) (a1 a2 : Int) (w : World) (hC0 : Kd.C (Kd.int .u8) w A0 l0.length l0) (hc0 : l0.length ≤ c0) (hby : By l0) (hn0 : l0.length ≤ 140737488351232) (ha0 : 0 ≤ a1) (ha1 : a1 ≤ 65535) (hb0 : 0 ≤ a2) (hb1 : a2 ≤ 255) :
    Calls Try.prog 5 #[.slice A0 l0.length c0, .int .u16 a1, .int .u8 a2] w fun e w' => e = .returned (.bool true) ∧ Below w.heap.size w w' := by
  by_cases hz : l0.length = 0
  · have hz' : ((l0.length : Int) == 0) = true := by simp [hz]
    go_enter Try.func5, Try.ntmps5
    go_wp2_with fail
    refine (awake_calls w).mono ?_
    rintro e w1 ⟨rfl, hb⟩
    go_wp2_with fail
    go_ret
    exact ⟨rfl, hb⟩
  have hz' : ((l0.length : Int) == 0) = false := beq_eq_false_iff_ne.2 (by omega)
  by_cases hlen : l0.length > 20000
  · have hd : decide (20000 < l0.length) = true := decide_eq_true hlen
    go_enter Try.func5, Try.ntmps5
    go_wp2_with fail
    refine (awake_calls w).mono ?_
    rintro e w1 ⟨rfl, hb⟩
    go_wp2_with fail
    go_ret
    exact ⟨rfl, hb⟩
  have hd : decide (20000 < l0.length) = false := decide_eq_false hlen
  have hm0 := Int.emod_nonneg a1 (show (l0.length : Int) ≠ 0 by omega)
  have hm1 := Int.emod_lt_of_pos a1 (show 0 < (l0.length : Int) by omega)
  obtain ⟨k, hk⟩ : ∃ k : Nat, a1 % (l0.length : Int) = (k : Int) := ⟨(a1 % (l0.length : Int)).toNat, by omega⟩
  rw [hk] at hm0 hm1
  have hkl : k < l0.length := by omega
  have HK := Aside0.mk hk
  clear hk hm0 hm1
  have HP := Aside0.mk (show 0 < l0.length by omega)
  have info5 : (Try.prog.info? 5).map (fun i => (i.zero, i.size, i.bytes)) = some (some (.int .u8 0), 1, 1) := by kernel_rfl
  have HB := Aside0.mk (Below.refl w.heap.size w)
  go_enter Try.func5, Try.ntmps5
  go_wp2_with (first | (at_builtin; refine Kd.R_append_rows (Kd.int .u8) (w0 := w) w.heap.size rfl (.tmp 24) (.tmp 25) 24 5 (.int .u8 0) 1 rfl Try.underlying24 info5 rfl (by decide) (by omega) _ [] l0 _ _ _ (fun _ => True) (fun _ => False) rfl rfl ?aO ?aR (fun _ _ h => h) (fun _ h => h.elim) (fun _ _ => trivial) ?aB ?aS ?aL ?_; rotate_right; intro v1 w1 ho hb hg hat))
  rw [List.nil_append] at ho
  obtain ⟨g, cap, rfl, hgb, hcap, hblk⟩ := Blk.of_own ho HP.out
  clear ho hg hat HB
  rw [HK.out]
  obtain ⟨bk, hbk⟩ : ∃ bk, l0.getD k 0 = bk := ⟨_, rfl⟩
  have hcx := hblk.cell hkl
  rw [hbk] at hcx
  have hfx := hblk.frozen k
  obtain ⟨nk, hnk⟩ : ∃ nk, (bk + a2) % 256 = nk := ⟨_, rfl⟩
  have hB2 : Below w.heap.size w (w1.setCell ⟨g, k, none⟩ (.int .u8 nk)) := below_set hb hgb
  have hblk2 := hblk.set k nk
  have hC2 := row1 (w := w1.setCell ⟨g, k, none⟩ (.int .u8 nk)) (l := l0.set k nk) (n := l0.length) (c := cap) (A := some ⟨g, 0, none⟩) (by simp) hcap (by have := hblk2.reads (by simp; omega); rwa [List.length_set] at this) w1.heap.size (by simp [World.setCell])
  have hnr : 0 ≤ nk ∧ nk ≤ 255 := by omega
  have hbkr : 0 ≤ bk ∧ bk ≤ 255 := by
    rw [← hbk, List.getD_eq_getElem?_getD, List.getElem?_eq_getElem hkl]
    exact hby _ (List.getElem_mem hkl)
  have he1 : (M 1 (l0.set k nk) == M 1 l0) = (a2 == 0) := by
    rw [Bool.eq_iff_iff, beq_iff_eq, beq_iff_eq, M_set hby hkl hnr.1 hnr.2, hbk]
    omega
  have hby2 : By (l0.set k nk) := By.set hby k hnr
  have hlen2 : (l0.set k nk).length = l0.length := by simp
  have HC2 := Aside0.mk hC2
  have HBL2 := Aside0.mk hblk2
  have HB2 := Aside0.mk hB2
  have HBY2 := Aside0.mk hby2
  have HL2 := Aside0.mk hlen2
  have HBK := Aside0.mk hbk
  have HNR := Aside0.mk hnr
  have HBKR := Aside0.mk hbkr
  clear hC2 hblk2 hB2 hby2 hlen2 hbk hnr hbkr hblk hb info5
  generalize hxx : l0.set k nk = xx at *
  have HXX := Aside0.mk hxx
  clear hxx
  go_simp
  go_wp2_with fail
  refine (sum1_calls xx HC2.out HBY2.out (by rw [HL2.out]; omega)).mono ?_
  rintro e w3 ⟨rfl, hb3⟩
  have HB3 := Aside0.mk (below_step (below_alloc HB2.out _) hb3)
  clear HC2 HB2 HBL2 hb3
  go_wp2_with fail
  refine (sum1_calls l0 (row1 rfl hc0 (Kd.C_below hC0 HB3.out) w3.heap.size rfl) hby hn0).mono ?_
  rintro e w4 ⟨rfl, hb4⟩
  have HB4 := Aside0.mk (below_step (below_alloc HB3.out _) hb4)
  clear HB3 hb4 hcx hfx
  have info5 : (Try.prog.info? 5).map (fun i => (i.zero, i.size, i.bytes)) = some (some (.int .u8 0), 1, 1) := by kernel_rfl
  go_wp2_with (first | (at_builtin; refine Kd.R_append_rows (Kd.int .u8) (w0 := w) w.heap.size rfl (.tmp 52) (.tmp 53) 24 5 (.int .u8 0) 1 rfl Try.underlying24 info5 rfl (by decide) (by omega) _ [] l0 _ _ _ (fun _ => True) (fun _ => False) rfl rfl ?bO ?bR (fun _ _ h => h) (fun _ h => h.elim) (fun _ _ => trivial) ?bB ?bS ?bL ?_; rotate_right; intro v5 w5 ho hb hg hat))
  · refine (awake_calls w4).mono ?_
    rintro e w5 ⟨rfl, hb5⟩
    have hB5 := below_step HB4.out hb5
    go_wp2_with fail
    go_ret
    exact ⟨rfl, hB5⟩
  · have hnl : ((k : Int) + 1 == (l0.length : Int)) = false := by assumption
    have hk2 : k + 1 < l0.length := by have := beq_eq_false_iff_ne.1 hnl; omega
    rw [List.nil_append] at ho
    obtain ⟨g2, cap2, rfl, hgb2, hcap2, hblk⟩ := Blk.of_own ho HP.out
    clear ho hg hat HB4 info5
    obtain ⟨b2, hb2⟩ : ∃ b2, l0.getD (k + 1) 0 = b2 := ⟨_, rfl⟩
    have hcx := hblk.cell hkl
    have hcy := hblk.cell hk2
    rw [HBK.out] at hcx
    rw [hb2] at hcy
    have hfx := hblk.frozen k
    have hfy := hblk.frozen (k + 1)
    have HBL := Aside0.mk hblk
    have HBB := Aside0.mk hb
    have HB2 := Aside0.mk hb2
    clear hblk hb hb2
    go_simp
    go_region
    have hblk6 := (HBL.out.set k b2).set (k + 1) bk
    have hb6 : Below w.heap.size w ((w5.setCell ⟨g2, k, none⟩ (.int .u8 b2)).setCell ⟨g2, k + 1, none⟩ (.int .u8 bk)).drew := below_drew1 (below_set (below_set HBB.out hgb2) hgb2)
    have hblk7 : Blk ((w5.setCell ⟨g2, k, none⟩ (.int .u8 b2)).setCell ⟨g2, k + 1, none⟩ (.int .u8 bk)).drew g2 ((l0.set k b2).set (k + 1) bk) := hblk6
    clear hblk6
    generalize ((w5.setCell ⟨g2, k, none⟩ (.int .u8 b2)).setCell ⟨g2, k + 1, none⟩ (.int .u8 bk)).drew = w6 at *
    have hyl : ((l0.set k b2).set (k + 1) bk).length = l0.length := by simp
    have hb2r : 0 ≤ b2 ∧ b2 ≤ 255 := by
      rw [← HB2.out, List.getD_eq_getElem?_getD, List.getElem?_eq_getElem hk2]
      exact hby _ (List.getElem_mem hk2)
    have hbyy : By ((l0.set k b2).set (k + 1) bk) := By.set (By.set hby k hb2r) (k + 1) HBKR.out
    have he2 : (M 1 ((l0.set k b2).set (k + 1) bk) == M 1 l0) = (bk == b2) := by
      have := M_swap hby hk2
      rw [HBK.out, HB2.out] at this
      rw [Bool.eq_iff_iff, beq_iff_eq, beq_iff_eq, this]
    obtain ⟨_, _, hcells⟩ := id hC0
    obtain ⟨ad, rfl, hcell⟩ := hcells HP.out
    have hck : ∀ W, Below w6.heap.size w6 W → W.cell? (ad.add k) = some (.int .u8 bk) := by
      intro W hW
      obtain ⟨cs, _, hk, hc⟩ := hcell k _ (List.getElem?_eq_getElem hkl)
      rw [hk] at hc
      have := hc 0 _ rfl
      rw [show (Kd.int .u8).sz = 1 from rfl, Nat.mul_one, Nat.add_zero] at this
      have e : l0[k] = bk := by have := HBK.out; rw [List.getD_eq_getElem?_getD, List.getElem?_eq_getElem hkl] at this; exact this
      rw [e] at this
      exact pw_cell_below (below_step hb6 hW) this
    have hck2 : ∀ W, Below w6.heap.size w6 W → W.cell? ⟨ad.block, ad.off + (k + 1), none⟩ = some (.int .u8 b2) := by
      intro W hW
      obtain ⟨cs, _, hk, hc⟩ := hcell (k + 1) _ (List.getElem?_eq_getElem hk2)
      rw [hk] at hc
      have := hc 0 _ rfl
      have e : l0[k + 1] = b2 := by have := HB2.out; rw [List.getD_eq_getElem?_getD, List.getElem?_eq_getElem hk2] at this; exact this
      have e2 : ad.add ((k + 1) * (Kd.int .u8).sz + 0) = ⟨ad.block, ad.off + (k + 1), none⟩ := by
        rw [show (Kd.int .u8).sz = 1 from rfl, Nat.mul_one, Nat.add_zero]
        simp [Addr.add]
      rw [e, e2] at this
      exact pw_cell_below (below_step hb6 hW) this
    have H9 := Aside0.mk (fun W (hb : Below w6.heap.size w6 W) => (show IsL (Kd.int .u8) ((l0.set k b2).set (k + 1) bk) (.slice (some ⟨g2, 0, none⟩) l0.length cap2) W from ⟨_, cap2, by rw [hyl], by rw [hyl]; exact hcap2, Kd.C_below (hblk7.reads (by rw [hyl]; omega)) hb⟩))
    have H0 := Aside0.mk (fun W (hb : Below w6.heap.size w6 W) => (show IsL (Kd.int .u8) l0 (.slice (some ad) l0.length c0) W from ⟨_, c0, rfl, hc0, Kd.C_below hC0 (below_step hb6 hb)⟩))
    have HCK := Aside0.mk hck
    have HCK2 := Aside0.mk hck2
    have HE2 := Aside0.mk he2
    have HBYY := Aside0.mk hbyy
    have HYL := Aside0.mk hyl
    have HB6 := Aside0.mk hb6
    clear hck hck2 he2 hbyy hyl hb6 hblk7 HBL HBB hcx hcy hfx hfy hcells hcell hb2r
    generalize (l0.set k b2).set (k + 1) bk = yy at *
    have FY := Aside0.mk (show M 1 (List.flatten [yy]) = M 1 yy by simp)
    have F0 := Aside0.mk (show M 1 (List.flatten [l0]) = M 1 l0 by simp)
    clear hC0
    go_wp2_with fail
    refine Reg.region_list [Reg.Is (.slice (some ⟨g2, 0, none⟩) l0.length cap2), (IsL (Kd.slice 5 (Kd.int .u8)) [yy]), Reg.Is (.int .u32 (M 1 yy)), Reg.Is (.slice (some ad) l0.length c0), (IsL (Kd.slice 5 (Kd.int .u8)) [l0]), Reg.Is (.int .u32 (M 1 l0)), Reg.Is (.bool (bk == b2)), Reg.Is (.slice (some ad) l0.length c0), Reg.Is (.int .i64 (k : Int)), Reg.Is (.pointer (some (ad.add k))), Reg.Is (.int .u8 bk), Reg.Is (.slice (some ad) l0.length c0), Reg.Is (.int .i64 (k : Int)), Reg.Is (.int .i64 ((k : Int) + 1)), Reg.Is (.pointer (some ⟨ad.block, ad.off + (k + 1), none⟩)), Reg.Is (.int .u8 b2), Reg.Is (.bool (bk == b2)), Reg.Is (.bool true), Reg.Is (.bool true), Reg.Is (.bool true), Reg.Is (.bool true), Reg.Is (.bool true)]
        [some 71, some 72, some 73, some 74, some 75, some 76, some 77, some 78, some 79, some 80, some 81, some 82, some 83, some 84, some 85, some 86, some 87, some 88, some 89, some 90, some 91, some 6] (by kernel_rfl) (by rfl) (by rfl) (by rfl) rfl ⟨Reg.mono_is _, (fun _ _ _ h hb => IsL.mono h hb), Reg.mono_is _, Reg.mono_is _, (fun _ _ _ h hb => IsL.mono h hb), Reg.mono_is _, Reg.mono_is _, Reg.mono_is _, Reg.mono_is _, Reg.mono_is _, Reg.mono_is _, Reg.mono_is _, Reg.mono_is _, Reg.mono_is _, Reg.mono_is _, Reg.mono_is _, Reg.mono_is _, Reg.mono_is _, Reg.mono_is _, Reg.mono_is _, Reg.mono_is _, Reg.mono_is _, trivial⟩ (Reg.noneOk_of (by rfl)) ⟨?_, ?_, ?_, ?_, ?_, ?_, ?_, ?_, ?_, ?_, ?_, ?_, ?_, ?_, ?_, ?_, ?_, ?_, ?_, ?_, ?_, ?_, trivial⟩ ?_
    · intro a w hl   -- 0: slot 71
      have q9 : a.eval (.tmp 9) = .slice (some ⟨g2, 0, none⟩) l0.length cap2 := hl.out 9 rfl
      have qc : ∀ x, a.eval (.const x) = x := fun _ => rfl
      refine Reg.does_is (x := .slice (some ⟨g2, 0, none⟩) l0.length cap2) rfl rfl ?_
      clear hl
      generalize a.eval = ρ at *
      go_simp
    · intro a w hl   -- 1: slot 72
      have q71 : a.eval (.tmp 71) = .slice (some ⟨g2, 0, none⟩) l0.length cap2 := hl.has 0 rfl
      have qc : ∀ x, a.eval (.const x) = x := fun _ => rfl
      refine Reg.does_new (p := IsL (Kd.slice 5 (Kd.int .u8)) [yy]) (x := .slice (some ⟨w.heap.size, 0, none⟩) 1 1) (w' := w.alloc (.cells #[.slice (some ⟨g2, 0, none⟩) l0.length cap2] 24)) rfl rfl ?_ (lit1 rfl ((IsL.slice_ 5).2 (H9.out w hl.below))) (below_alloc (Below.refl _ _) _)
      clear hl
      generalize a.eval = ρ at *
      go_simp
    · intro a w hl   -- 2: slot 73
      have q72 : (IsL (Kd.slice 5 (Kd.int .u8)) [yy]) (a.eval (.tmp 72)) w := hl.has 1 rfl
      obtain ⟨A, c, e72, hc, hC⟩ := q72
      have qc : ∀ x, a.eval (.const x) = x := fun _ => rfl
      refine Reg.does_call_is (x := .int .u32 (M 1 yy)) #[.slice A 1 c] rfl rfl Try.func9 (by kernel_rfl) rfl rfl (by simp [qc, e72]) ?_
      rw [← FY.out]
      exact sum_calls [yy] hc hC (by simp) (bys1 HBYY.out (by rw [HYL.out]; omega))
    · intro a w hl   -- 3: slot 74
      have q0 : a.eval (.tmp 0) = .slice (some ad) l0.length c0 := hl.out 0 rfl
      have qc : ∀ x, a.eval (.const x) = x := fun _ => rfl
      refine Reg.does_is (x := .slice (some ad) l0.length c0) rfl rfl ?_
      clear hl
      generalize a.eval = ρ at *
      go_simp
    · intro a w hl   -- 4: slot 75
      have q74 : a.eval (.tmp 74) = .slice (some ad) l0.length c0 := hl.has 3 rfl
      have qc : ∀ x, a.eval (.const x) = x := fun _ => rfl
      refine Reg.does_new (p := IsL (Kd.slice 5 (Kd.int .u8)) [l0]) (x := .slice (some ⟨w.heap.size, 0, none⟩) 1 1) (w' := w.alloc (.cells #[.slice (some ad) l0.length c0] 24)) rfl rfl ?_ (lit1 rfl ((IsL.slice_ 5).2 (H0.out w hl.below))) (below_alloc (Below.refl _ _) _)
      clear hl
      generalize a.eval = ρ at *
      go_simp
    · intro a w hl   -- 5: slot 76
      have q75 : (IsL (Kd.slice 5 (Kd.int .u8)) [l0]) (a.eval (.tmp 75)) w := hl.has 4 rfl
      obtain ⟨A, c, e75, hc, hC⟩ := q75
      have qc : ∀ x, a.eval (.const x) = x := fun _ => rfl
      refine Reg.does_call_is (x := .int .u32 (M 1 l0)) #[.slice A 1 c] rfl rfl Try.func9 (by kernel_rfl) rfl rfl (by simp [qc, e75]) ?_
      rw [← F0.out]
      exact sum_calls [l0] hc hC (by simp) (bys1 hby hn0)
    · intro a w hl   -- 6: slot 77
      have q73 : a.eval (.tmp 73) = .int .u32 (M 1 yy) := hl.has 2 rfl
      have q76 : a.eval (.tmp 76) = .int .u32 (M 1 l0) := hl.has 5 rfl
      have qc : ∀ x, a.eval (.const x) = x := fun _ => rfl
      refine Reg.does_is (x := .bool (bk == b2)) rfl rfl ?_
      clear hl
      generalize a.eval = ρ at *
      have he2 := HE2.out
      go_simp
    · intro a w hl   -- 7: slot 78
      have q0 : a.eval (.tmp 0) = .slice (some ad) l0.length c0 := hl.out 0 rfl
      have qc : ∀ x, a.eval (.const x) = x := fun _ => rfl
      refine Reg.does_is (x := .slice (some ad) l0.length c0) rfl rfl ?_
      clear hl
      generalize a.eval = ρ at *
      go_simp
    · intro a w hl   -- 8: slot 79
      have q7 : a.eval (.tmp 7) = .int .i64 (k : Int) := hl.out 7 rfl
      have qc : ∀ x, a.eval (.const x) = x := fun _ => rfl
      refine Reg.does_is (x := .int .i64 (k : Int)) rfl rfl ?_
      clear hl
      generalize a.eval = ρ at *
      go_simp
    · intro a w hl   -- 9: slot 80
      have q78 : a.eval (.tmp 78) = .slice (some ad) l0.length c0 := hl.has 7 rfl
      have q79 : a.eval (.tmp 79) = .int .i64 (k : Int) := hl.has 8 rfl
      have qc : ∀ x, a.eval (.const x) = x := fun _ => rfl
      refine Reg.does_is (x := .pointer (some (ad.add k))) rfl rfl ?_
      clear hl
      generalize a.eval = ρ at *
      go_simp
    · intro a w hl   -- 10: slot 81
      have q80 : a.eval (.tmp 80) = .pointer (some (ad.add k)) := hl.has 9 rfl
      have qc : ∀ x, a.eval (.const x) = x := fun _ => rfl
      refine Reg.does_is (x := .int .u8 bk) rfl rfl ?_
      have hcc := HCK.out w hl.below
      clear hl
      generalize a.eval = ρ at *
      go_simp
    · intro a w hl   -- 11: slot 82
      have q0 : a.eval (.tmp 0) = .slice (some ad) l0.length c0 := hl.out 0 rfl
      have qc : ∀ x, a.eval (.const x) = x := fun _ => rfl
      refine Reg.does_is (x := .slice (some ad) l0.length c0) rfl rfl ?_
      clear hl
      generalize a.eval = ρ at *
      go_simp
    · intro a w hl   -- 12: slot 83
      have q7 : a.eval (.tmp 7) = .int .i64 (k : Int) := hl.out 7 rfl
      have qc : ∀ x, a.eval (.const x) = x := fun _ => rfl
      refine Reg.does_is (x := .int .i64 (k : Int)) rfl rfl ?_
      clear hl
      generalize a.eval = ρ at *
      go_simp
    · intro a w hl   -- 13: slot 84
      have q83 : a.eval (.tmp 83) = .int .i64 (k : Int) := hl.has 12 rfl
      have qc : ∀ x, a.eval (.const x) = x := fun _ => rfl
      refine Reg.does_is (x := .int .i64 ((k : Int) + 1)) rfl rfl ?_
      clear hl
      generalize a.eval = ρ at *
      have hw : IntKind.i64.wrap ((k : Int) + 1) = (k : Int) + 1 := IntWalk.i64_in _ (by omega)
      go_simp
    · intro a w hl   -- 14: slot 85
      have q82 : a.eval (.tmp 82) = .slice (some ad) l0.length c0 := hl.has 11 rfl
      have q84 : a.eval (.tmp 84) = .int .i64 ((k : Int) + 1) := hl.has 13 rfl
      have qc : ∀ x, a.eval (.const x) = x := fun _ => rfl
      refine Reg.does_is (x := .pointer (some ⟨ad.block, ad.off + (k + 1), none⟩)) rfl rfl ?_
      clear hl
      generalize a.eval = ρ at *
      have p1 : (0 : Int) ≤ (k : Int) + 1 := by omega
      have p2 : (k : Int) + 1 < (l0.length : Int) := by omega
      have p3 : ((k : Int) + 1).toNat = k + 1 := by omega
      go_simp
    · intro a w hl   -- 15: slot 86
      have q85 : a.eval (.tmp 85) = .pointer (some ⟨ad.block, ad.off + (k + 1), none⟩) := hl.has 14 rfl
      have qc : ∀ x, a.eval (.const x) = x := fun _ => rfl
      refine Reg.does_is (x := .int .u8 b2) rfl rfl ?_
      have hcc := HCK2.out w hl.below
      clear hl
      generalize a.eval = ρ at *
      go_simp
    · intro a w hl   -- 16: slot 87
      have q81 : a.eval (.tmp 81) = .int .u8 bk := hl.has 10 rfl
      have q86 : a.eval (.tmp 86) = .int .u8 b2 := hl.has 15 rfl
      have qc : ∀ x, a.eval (.const x) = x := fun _ => rfl
      refine Reg.does_is (x := .bool (bk == b2)) rfl rfl ?_
      clear hl
      generalize a.eval = ρ at *
      go_simp
    · intro a w hl   -- 17: slot 88
      have q77 : a.eval (.tmp 77) = .bool (bk == b2) := hl.has 6 rfl
      have q87 : a.eval (.tmp 87) = .bool (bk == b2) := hl.has 16 rfl
      have qc : ∀ x, a.eval (.const x) = x := fun _ => rfl
      refine Reg.does_is (x := .bool true) rfl rfl ?_
      clear hl
      generalize a.eval = ρ at *
      go_simp
    · intro a w hl   -- 18: slot 89
      have q88 : a.eval (.tmp 88) = .bool true := hl.has 17 rfl
      have qc : ∀ x, a.eval (.const x) = x := fun _ => rfl
      refine Reg.does_is (x := .bool true) rfl rfl ?_
      clear hl
      generalize a.eval = ρ at *
      go_simp
    · intro a w hl   -- 19: slot 90
      have q89 : a.eval (.tmp 89) = .bool true := hl.has 18 rfl
      have qc : ∀ x, a.eval (.const x) = x := fun _ => rfl
      refine Reg.does_call_is (x := .bool true) #[] rfl (Reg.wanted_of rfl rfl (hl.yields 18 rfl rfl q89)) Try.func7 (by kernel_rfl) rfl rfl (by simp [qc]) ?_
      exact awake_calls w
    · intro a w hl   -- 20: slot 91
      have q89 : a.eval (.tmp 89) = .bool true := hl.has 18 rfl
      have q90 : a.eval (.tmp 90) = .bool true := hl.has 19 rfl
      have qc : ∀ x, a.eval (.const x) = x := fun _ => rfl
      refine Reg.does_is (x := .bool true) rfl rfl ?_
      clear hl
      generalize a.eval = ρ at *
      go_simp
    · intro a w hl   -- 21: slot 6
      have q91 : a.eval (.tmp 91) = .bool true := hl.has 20 rfl
      have qc : ∀ x, a.eval (.const x) = x := fun _ => rfl
      refine Reg.does_is (x := .bool true) rfl rfl ?_
      clear hl
      generalize a.eval = ρ at *
      go_simp
    · rintro v w hb ⟨e71, e72, e73, e74, e75, e76, e77, e78, e79, e80, e81, e82, e83, e84, e85, e86, e87, e88, e89, e90, e91, e6, _⟩
      replace e71 : v 0 = .slice (some ⟨g2, 0, none⟩) l0.length cap2 := e71
      replace e72 : (IsL (Kd.slice 5 (Kd.int .u8)) [yy]) (v 1) w := e72
      replace e73 : v 2 = .int .u32 (M 1 yy) := e73
      replace e74 : v 3 = .slice (some ad) l0.length c0 := e74
      replace e75 : (IsL (Kd.slice 5 (Kd.int .u8)) [l0]) (v 4) w := e75
      replace e76 : v 5 = .int .u32 (M 1 l0) := e76
      replace e77 : v 6 = .bool (bk == b2) := e77
      replace e78 : v 7 = .slice (some ad) l0.length c0 := e78
      replace e79 : v 8 = .int .i64 (k : Int) := e79
      replace e80 : v 9 = .pointer (some (ad.add k)) := e80
      replace e81 : v 10 = .int .u8 bk := e81
      replace e82 : v 11 = .slice (some ad) l0.length c0 := e82
      replace e83 : v 12 = .int .i64 (k : Int) := e83
      replace e84 : v 13 = .int .i64 ((k : Int) + 1) := e84
      replace e85 : v 14 = .pointer (some ⟨ad.block, ad.off + (k + 1), none⟩) := e85
      replace e86 : v 15 = .int .u8 b2 := e86
      replace e87 : v 16 = .bool (bk == b2) := e87
      replace e88 : v 17 = .bool true := e88
      replace e89 : v 18 = .bool true := e89
      replace e90 : v 19 = .bool true := e90
      replace e91 : v 20 = .bool true := e91
      replace e6 : v 21 = .bool true := e6
      simp only [Reg.putL, Act.put, List.setIfInBounds_toArray, List.set_cons_zero, List.set_cons_succ, e71, e73, e74, e76, e77, e78, e79, e80, e81, e82, e83, e84, e85, e86, e87, e88, e89, e90, e91, e6]
      clear e71 e73 e74 e76 e77 e78 e79 e80 e81 e82 e83 e84 e85 e86 e87 e88 e89 e90 e91 e6
      go_wp2
      go_ret
      exact ⟨rfl, below_step HB6.out hb⟩
  case aO => exact R_empty _ _ _ _ (Nat.le_refl _)
  case aR => exact Kd.C_below hC0 (below_alloc (Below.refl _ _) _)
  case aB => exact below_alloc (Below.refl _ _) _
  case aS => simp
  case aL => simp; omega
  case bO => exact R_empty _ _ _ _ HB4.out.size
  case bR => exact Kd.C_below hC0 (below_alloc HB4.out _)
  case bB => exact below_alloc HB4.out _
  case bS => have := HB4.out.size; simp; omega
  case bL => simp; omega
end Go.Proofs.Ytnoanllncohkdaa.Q
