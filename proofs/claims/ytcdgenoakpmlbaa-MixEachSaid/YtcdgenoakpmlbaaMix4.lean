/- The heap: up. -/
import Derived.Test.YtcdgenoakpmlbaaMix3
import Derived.Deep.Cut
namespace Go.Proofs.Ytcdgenoakpmlbaa.Mix
open Go.RowKit Go.Proofs.YtcdgenoakpmlbaaW.PrintWords Go.Proofs.YtcdgenoakpmlbaaW.PrintLast Go.Proofs.YtcdgenoakpmlbaaW.PrintMore
open Go.Proofs.Ytcdgenoakpmlbaa Go.Proofs.Ytcdgenoakpmlbaa.Vals Go.Proofs.Ytcdgenoakpmlbaa.Q
set_option linter.unusedVariables false
set_option linter.unusedSimpArgs false

/-- A cursor with what is left of its row. -/
structure Qu where
  x : Cu
  l : List S32
def Qu.key (q : Qu) : ByteArray := (q.l.headD z32).f0
def lt (a b : Qu) : Bool := lessB a.x.row a.key b.x.row b.key
/-- Ghosts: the elder world w0, in which the rows lie; a world we, since which blocks of S alone have turned. -/
structure Gh where
  w0 : World
  we : World
  S : Nat → Prop
/-- The front: G holds the slice, F the cursors; the rows lie in the elder world w0. -/
structure Front (w0 : Gh) (w : World) (G F cap : Nat) (qs : List Qu) : Prop where
  ex : w.heap[G]? = some (.cells #[.slice (some ⟨F, 0, none⟩) qs.length cap] 41 (0, 0))
  fr : FR w F (2 * cap) (qs.map Qu.x)
  ne : F ≠ G
  low : w0.w0.heap.size ≤ F ∧ w0.w0.heap.size ≤ G
  rows : ∀ q ∈ qs, 0 < q.l.length ∧ q.x.n = q.l.length ∧ k32.C w0.w0 q.x.A q.x.n q.l ∧ q.x.n ≤ q.x.c
  few : qs.length ≤ 1000000
  old : Below w0.w0.heap.size w0.w0 w
  inS : w0.S G ∧ w0.S F
  mark : Keeps w0.S w0.we w
theorem Front.cell {w0 : Gh} {w : World} {G F cap : Nat} {qs : List Qu} (h : Front w0 w G F cap qs) : w.cell? ⟨G, 0, none⟩ = some (.slice (some ⟨F, 0, none⟩) qs.length cap) := (blk_cell h.ex 0).trans rfl
theorem Front.room {w0 : Gh} {w : World} {G F cap : Nat} {qs : List Qu} (h : Front w0 w G F cap qs) : qs.length ≤ cap := by
  obtain ⟨cur, _, ⟨h2, h3⟩, _⟩ := h.fr
  rw [List.length_map] at h2
  omega
theorem FR.C {w : World} {F z : Nat} {cs : List Cu} (h : FR w F z cs) (hl : cs.length ≤ 1000000) : kc.C w (some ⟨F, 0, none⟩) cs.length cs := by
  refine ⟨rfl, by omega, fun hp => ⟨⟨F, 0, none⟩, rfl, ?_⟩⟩
  intro j p hj
  obtain ⟨hjl, rfl⟩ := List.getElem?_eq_some_iff.1 hj
  obtain ⟨c0, c1⟩ := h.cell hjl
  have ha : ∀ m, (⟨F, 0, none⟩ : Addr).add m = ⟨F, m, none⟩ := fun m => by simp [Addr.add]; exact fun h => h.symm
  refine ⟨(cs[j]).cells, rfl, kc_mk _ _, fun i u hu => ?_⟩
  rw [ha]
  match i, hu with
  | 0, hu => cases hu; exact c0
  | 1, hu => cases hu; exact c1
theorem Front.less {w0 : Gh} {w : World} {G F cap : Nat} {qs : List Qu} (h : Front w0 w G F cap qs) {i k : Nat} (hi : i < qs.length) (hk : k < qs.length) :
    Calls Try.prog 49 #[.slice (some ⟨F, 0, none⟩) qs.length cap, .int .i64 (i : Int), .int .i64 (k : Int)] w fun e w' => e = .returned (.bool (lt qs[i] qs[k])) ∧ Below w.heap.size w w' := by
  obtain ⟨hi1, hi2, hi3, _⟩ := h.rows _ (List.getElem_mem hi)
  obtain ⟨hk1, hk2, hk3, _⟩ := h.rows _ (List.getElem_mem hk)
  have hlen : (qs.map Qu.x).length = qs.length := List.length_map _
  have hC := h.fr.C (by rw [hlen]; exact h.few)
  have hm := less_calls _ cap hC (by rw [hlen]; exact h.few) (i := i) (k := k) (by omega) (by omega) (li := qs[i].l) (lk := qs[k].l) (by simp only [List.getElem_map]; exact Kd.C_below hi3 h.old) (by simp only [List.getElem_map]; exact Kd.C_below hk3 h.old) (by simp only [List.getElem_map]; omega) (by simp only [List.getElem_map]; omega) hi1 hk1
  simp only [List.getElem_map, List.length_map] at hm
  have e : ∀ q : Qu, ∀ h : 0 < q.l.length, (q.l[0]).f0 = q.key := fun q h => by
    obtain ⟨x, l⟩ := q
    cases l with
    | nil => simp at h
    | cons a t => rfl
  rw [e, e] at hm
  exact hm
def swp (qs : List Qu) (i k : Nat) : List Qu := if h : i < qs.length ∧ k < qs.length then (qs.set i (qs[k]'h.2)).set k (qs[i]'h.1) else qs
theorem swp_length (qs : List Qu) (i k : Nat) : (swp qs i k).length = qs.length := by
  unfold swp
  split
  · rw [List.length_set, List.length_set]
  · rfl
theorem swp_mem {qs : List Qu} {i k : Nat} {q : Qu} (h : q ∈ swp qs i k) : q ∈ qs := by
  unfold swp at h
  split at h
  · rename_i hh
    rcases List.mem_or_eq_of_mem_set h with h | rfl
    · rcases List.mem_or_eq_of_mem_set h with h | rfl
      · exact h
      · exact List.getElem_mem hh.2
    · exact List.getElem_mem hh.1
  · exact h
theorem Front.swap {w0 : Gh} {w : World} {G F cap : Nat} {qs : List Qu} (h : Front w0 w G F cap qs) {i k : Nat} (hi : i < qs.length) (hk : k < qs.length) :
    Calls Try.prog 52 #[.slice (some ⟨F, 0, none⟩) qs.length cap, .int .i64 (i : Int), .int .i64 (k : Int)] w fun e w' => (∃ u, e = .returned u) ∧ Front w0 w' G F cap (swp qs i k) := by
  have hlen : (qs.map Qu.x).length = qs.length := List.length_map _
  have hm := swap_calls cap h.fr (by rw [hlen]; exact h.few) (i := i) (k := k) (by omega) (by omega)
  simp only [List.getElem_map, List.length_map] at hm
  refine hm.mono ?_
  rintro e w' ⟨hu, hf, hk2⟩
  have hsw : (swp qs i k).map Qu.x = ((qs.map Qu.x).set i (qs[k]).x).set k (qs[i]).x := by
    unfold swp
    rw [dif_pos ⟨hi, hk⟩, List.map_set, List.map_set]
  refine ⟨hu, ⟨?_, by rw [hsw]; exact hf, h.ne, h.low, fun q hq => h.rows q (swp_mem hq), by rw [swp_length]; exact h.few, ?_, h.inS, h.mark.then_ hk2 (fun j hj => Or.inl (by have h1 : j = F := hj; rw [h1]; exact h.inS.2))⟩⟩
  · rw [swp_length]
    exact hk2.blk h.ex (fun e => h.ne e.symm)
  · exact Keeps.below_then h.old (Nat.le_refl _) hk2 (fun j hj => by have h1 : j = F := hj; have := h.low.1; omega)
theorem Front.mono {w0 : Gh} {w w' : World} {G F cap : Nat} {qs : List Qu} (h : Front w0 w G F cap qs) (hb : Below w.heap.size w w') : Front w0 w' G F cap qs :=
  ⟨blk_below h.ex hb, h.fr.mono (hb.block F h.fr.lt), h.ne, h.low, h.rows, h.few, ⟨hb.os.trans h.old.os, hb.tape.trans h.old.tape, hb.output.trans h.old.output, Nat.le_trans h.old.size hb.size, fun k hk => (hb.block k (Nat.lt_of_lt_of_le hk h.old.size)).trans (h.old.block k hk)⟩, h.inS, h.mark.then_below hb⟩
theorem half (j : Nat) : ((j : Int) - 1).tdiv 2 = (((j - 1) / 2 : Nat) : Int) := by
  cases j with
  | zero => rfl
  | succ m =>
    rw [show (((m + 1 : Nat) : Int) - 1) = (m : Int) by omega]
    rfl
/-- What up makes of the heap. -/
def upL : Nat → List Qu → Nat → List Qu
  | 0, qs, _ => qs
  | f + 1, qs, j => if h : (j - 1) / 2 ≠ j ∧ j < qs.length then (if lt (qs[j]'h.2) (qs[(j - 1) / 2]'(by omega)) then upL f (swp qs ((j - 1) / 2) j) ((j - 1) / 2) else qs) else qs
theorem upL_stop {f j : Nat} {qs : List Qu} (h : (j - 1) / 2 = j) : upL (f + 1) qs j = qs := by
  unfold upL
  rw [dif_neg (fun g => g.1 h)]
theorem upL_no {f j i : Nat} {qs : List Qu} (he : (j - 1) / 2 = i) (h : i ≠ j) (hj : j < qs.length) (hi : i < qs.length) (hl : lt qs[j] qs[i] = false) : upL (f + 1) qs j = qs := by
  subst he
  unfold upL
  rw [dif_pos ⟨h, hj⟩, hl]
  rfl
theorem upL_yes {f j i : Nat} {qs : List Qu} (he : (j - 1) / 2 = i) (h : i ≠ j) (hj : j < qs.length) (hi : i < qs.length) (hl : lt qs[j] qs[i] = true) : upL (f + 1) qs j = upL f (swp qs i j) i := by
  subst he
  rw [upL, dif_pos ⟨h, hj⟩, hl]
  rfl
set_option maxHeartbeats 4000000 in
theorem up_calls {w0 : Gh} {w : World} {G F cap : Nat} {qs : List Qu} (h : Front w0 w G F cap qs) {j : Nat} (hj : j < qs.length) :
    Calls Try.prog 26 #[.iface 39 (.pointer (some ⟨G, 0, none⟩)), .int .i64 (j : Int)] w fun e w' => (∃ u, e = .returned u) ∧ Front w0 w' G F cap (upL (j + 1) qs j) := by
  have HF := Aside0.mk h
  have HJ := Aside0.mk hj
  clear h hj
  go_enter Try.func26, Try.ntmps26
  go_wp2_with fail
  go_loopg [1, 4] (j + 1) (fun kq v1 v4 wx => ∃ (jj f : Nat) (qq : List Qu), v1 = .int .i64 (jj : Int) ∧ Aside0 (kq = jj + 1 ∧ jj < qq.length ∧ jj ≤ f) ∧ Aside0 (Front w0 wx G F cap qq) ∧ Aside0 (upL (f + 1) qq jj = upL (j + 1) qs j))
  case atStart => exact ⟨j, j, qs, rfl, ⟨rfl, HJ.out, Nat.le_refl _⟩, HF, ⟨rfl⟩⟩
  case round =>
    clear HF HJ
    obtain ⟨jj, f, qq, rfl, HJ, HF, HU⟩ := hrel
    have hj1 := HF.out.few
    have hj2 := HJ.out.2.1
    go_upto_region 1 with fail
    rw [half jj]
    obtain ⟨ii, hii⟩ : ∃ ii, (jj - 1) / 2 = ii := ⟨_, rfl⟩
    have HII := Aside0.mk hii
    rw [hii]
    have hlt : ii < qq.length := by omega
    by_cases hij : ii = jj
    · have g1 : ((ii : Int) == (jj : Int)) = true := by rw [hij]; simp
      have HE := Aside0.mk (upL_stop (f := f) (qs := qq) (hii.trans hij))
      clear hii hij hlt hj1 hj2
      go_wp2_with fail
      exact bodyPost_end (results_none rfl _ _ _) rfl ⟨⟨_, rfl⟩, by rw [← HU.out, HE.out]; exact HF.out⟩
    · have g1 : ((ii : Int) == (jj : Int)) = false := by simp; omega
      have hm := m_less G HF.out.cell
      have HL := Aside0.mk (HF.out.less hj2 hlt)
      obtain ⟨lb, hlb⟩ : ∃ lb, lt qq[jj] qq[ii] = lb := ⟨_, rfl⟩
      rw [hlb] at HL
      have HLB := Aside0.mk (show (lb = false → upL (f + 1) qq jj = qq) ∧ (lb = true → upL (f + 1) qq jj = upL f (swp qq ii jj) ii) from ⟨fun h => upL_no hii hij hj2 hlt (hlb.trans h), fun h => upL_yes hii hij hj2 hlt (hlb.trans h)⟩)
      have HIJ := Aside0.mk (show ii ≠ jj ∧ ii < qq.length ∧ jj < qq.length ∧ ii < jj from ⟨hij, hlt, hj2, by omega⟩)
      clear hii hij hlb hlt hj2
      go_wp2_with fail
      refine HL.out.mono ?_
      rintro en w2 ⟨rfl, hb⟩
      have HF2 := Aside0.mk (HF.out.mono hb)
      clear hb HF HL hm
      cases lb
      · have HE := Aside0.mk (HLB.out.1 rfl)
        clear HLB
        go_wp2_with fail
        exact bodyPost_end (results_none rfl _ _ _) rfl ⟨⟨_, rfl⟩, by rw [← HU.out, HE.out]; exact HF2.out⟩
      · have HE := Aside0.mk (HLB.out.2 rfl)
        clear HLB
        have hm := m_swap G HF2.out.cell
        have HS := Aside0.mk (HF2.out.swap HIJ.out.2.1 HIJ.out.2.2.1)
        go_wp2_with fail
        refine HS.out.mono ?_
        rintro en w3 ⟨⟨u, rfl⟩, hf3⟩
        have HF3 := Aside0.mk hf3
        clear hf3 HS hm HF2
        go_wp2_with fail
        obtain ⟨f', rfl⟩ : ∃ f', f = f' + 1 := ⟨f - 1, by have := HIJ.out; have := HJ.out; omega⟩
        go_roundg (ii + 1)
        case measure => have := HIJ.out; have := HJ.out; omega
        case rel => exact ⟨ii, f', swp qq ii jj, rfl, ⟨rfl, by rw [swp_length]; exact HIJ.out.2.1, by have := HIJ.out; have := HJ.out; omega⟩, HF3, ⟨by rw [← HU.out, HE.out]⟩⟩
end Go.Proofs.Ytcdgenoakpmlbaa.Mix
