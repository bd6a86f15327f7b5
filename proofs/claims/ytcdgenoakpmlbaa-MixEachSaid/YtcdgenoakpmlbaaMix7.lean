/- The front's Pop, and the heap's. -/
import Derived.Test.YtcdgenoakpmlbaaMix6
namespace Go.Proofs.Ytcdgenoakpmlbaa.Mix
open Go.RowKit Go.Proofs.YtcdgenoakpmlbaaW.PrintWords Go.Proofs.YtcdgenoakpmlbaaW.PrintLast Go.Proofs.YtcdgenoakpmlbaaW.PrintMore
open Go.Proofs.Ytcdgenoakpmlbaa Go.Proofs.Ytcdgenoakpmlbaa.Vals Go.Proofs.Ytcdgenoakpmlbaa.Q
set_option linter.unusedVariables false
set_option linter.unusedSimpArgs false

theorem FR.take {w : World} {F z : Nat} {cs : List Cu} (h : FR w F z cs) (m : Nat) : FR w F z (cs.take m) := by
  obtain ⟨cur, h1, h2, h3⟩ := h
  refine ⟨cur, h1, ⟨by rw [List.length_take]; omega, h2.2⟩, fun i hi => ?_⟩
  rw [List.length_take] at hi
  have h4 := h3 i (by omega)
  rw [List.getElem_take]
  exact h4
set_option maxHeartbeats 4000000 in
theorem fpop_calls {w0 : Gh} {w : World} {G F cap : Nat} {qs : List Qu} (h : Front w0 w G F cap qs) (h0 : 0 < qs.length) :
    Calls Try.prog 50 #[.pointer (some ⟨G, 0, none⟩)] w fun e w' => (∃ u, e = .returned u) ∧ Front w0 w' G F cap (qs.take (qs.length - 1)) := by
  have HF := Aside0.mk h
  have hc := h.room
  have k0 := h.cell
  have kf := blk_frozen h.ex 0
  have hlen : (qs.map Qu.x).length = qs.length := List.length_map _
  obtain ⟨a0, a1⟩ := h.fr.cell (i := qs.length - 1) (by omega)
  obtain ⟨x, hx⟩ : ∃ x, (qs.map Qu.x)[qs.length - 1]'(by omega) = x := ⟨_, rfl⟩
  rw [hx] at a0 a1
  obtain ⟨i44, hi44⟩ : ∃ i5, Try.prog.info? 44 = some i5 := Option.isSome_iff_exists.1 (by rfl)
  have hs := fun W => cut_take (P := Try.prog) 41 44 Try.underlying41 hi44 .i64 (some ⟨F, 0, none⟩) qs.length cap (qs.length - 1) (by omega) hc W
  have e1 : ((qs.length - 1 : Nat) : Int) = (qs.length : Int) - 1 := by omega
  rw [e1] at hs
  have g1 : (0 : Int) < (qs.length : Int) := by omega
  have g2 : ((qs.length : Int) - 1).toNat = qs.length - 1 := by omega
  have hfew := h.few
  clear h hlen hx hi44
  go_enter Try.func50, Try.ntmps50
  go_upto_region 3 with fail
  have hba := below_alloc (Below.refl w.heap.size w) (.cells #[.int .i64 x.row, .slice x.A x.n x.c] 44)
  have HT := Aside0.mk (blk_new w (.cells #[.int .i64 x.row, .slice x.A x.n x.c] 44))
  have HF1 := Aside0.mk (HF.out.mono hba)
  have hTG : w.heap.size ≠ G := Nat.ne_of_gt (blk_lt HF.out.ex)
  clear hba k0 kf a0 a1 HF
  generalize w.alloc (.cells #[.int .i64 x.row, .slice x.A x.n x.c] 44) = w1 at HT HF1 ⊢
  generalize w.heap.size = T at HT hTG ⊢
  have k0 := HF1.out.cell
  have kf := blk_frozen HF1.out.ex 0
  have t0 := (blk_cell HT.out 0).trans rfl
  have t1 := (blk_cell HT.out 1).trans rfl
  go_upto_region 4 with fail
  have HF2 := Aside0.mk (show Front w0 (w1.setCell ⟨G, 0, none⟩ (.slice (some ⟨F, 0, none⟩) (qs.length - 1) cap)) G F cap (qs.take (qs.length - 1)) from by
    have hl : (qs.take (qs.length - 1)).length = qs.length - 1 := by rw [List.length_take]; omega
    refine ⟨?_, ?_, HF1.out.ne, HF1.out.low, fun q hq => HF1.out.rows q (List.mem_of_mem_take hq), by omega, Keeps.below_then HF1.out.old (Nat.le_refl _) ((Keeps.refl (fun j => j = G) w1).set (p := ⟨G, 0, none⟩) (Or.inl rfl) _) (fun j hj => by have h1 : j = G := hj; have := HF1.out.low.2; omega), HF1.out.inS, HF1.out.mark.set (p := ⟨G, 0, none⟩) (Or.inl HF1.out.inS.1) _⟩
    · rw [hl]
      exact blk_put HF1.out.ex 0 _ rfl
    · rw [List.map_take]
      exact (HF1.out.fr.take _).mono (Below.heap_setCell w1 ⟨G, 0, none⟩ _ F HF1.out.ne))
  have HT2 := Aside0.mk (show (w1.setCell ⟨G, 0, none⟩ (.slice (some ⟨F, 0, none⟩) (qs.length - 1) cap)).heap[T]? = _ from (Below.heap_setCell w1 ⟨G, 0, none⟩ _ T hTG).trans HT.out)
  clear k0 kf t0 t1 HT HF1 hs
  generalize w1.setCell ⟨G, 0, none⟩ (.slice (some ⟨F, 0, none⟩) (qs.length - 1) cap) = w2 at HF2 HT2 ⊢
  have t0 := (blk_cell HT2.out 0).trans rfl
  have t1 := (blk_cell HT2.out 1).trans rfl
  go_wp2_with fail
  go_ret
  exact ⟨⟨_, rfl⟩, HF2.out⟩
/-- What heap.Pop leaves of the heap. -/
def popL (qs : List Qu) : List Qu := (downL (qs.length - 1 + 1) (swp qs 0 (qs.length - 1)) 0 (qs.length - 1)).1.take (qs.length - 1)
set_option maxHeartbeats 4000000 in
theorem pop_calls {w0 : Gh} {w : World} {G F cap : Nat} {qs : List Qu} (h : Front w0 w G F cap qs) (h0 : 0 < qs.length) :
    Calls Try.prog 28 #[.iface 39 (.pointer (some ⟨G, 0, none⟩))] w fun e w' => (∃ u, e = .returned u) ∧ Front w0 w' G F cap (popL qs) := by
  have HF := Aside0.mk h
  have HC := Aside0.mk h0
  have hm := m_len G h.cell
  have hs := h.swap (i := 0) (k := qs.length - 1) (by omega) (by omega)
  have e1 : ((qs.length - 1 : Nat) : Int) = (qs.length : Int) - 1 := by omega
  rw [e1] at hs
  have HS := Aside0.mk hs
  have HE1 := Aside0.mk e1
  have hfew := h.few
  clear h h0 hs e1
  go_enter Try.func28, Try.ntmps28
  go_wp2_with fail
  refine (len_calls (some ⟨F, 0, none⟩) qs.length cap _).mono ?_
  rintro en w1 ⟨rfl, rfl⟩
  clear hm
  have hm := m_swap G HF.out.cell
  go_wp2_with fail
  refine HS.out.mono ?_
  rintro en w2 ⟨⟨u, rfl⟩, hf⟩
  have HF2 := Aside0.mk hf
  have hd := down_calls hf (n := qs.length - 1) (by rw [swp_length]; omega) (i0 := 0) (by omega)
  rw [HE1.out] at hd
  have HD := Aside0.mk hd
  clear hf hm HS HF hd
  go_wp2_with fail
  refine HD.out.mono ?_
  rintro en w3 ⟨rfl, hf⟩
  have HF3 := Aside0.mk hf
  have hl : (downL (qs.length - 1 + 1) (swp qs 0 (qs.length - 1)) 0 (qs.length - 1)).1.length = qs.length := by rw [downL_length, swp_length]
  have hp := fpop_calls hf (by rw [hl]; exact HC.out)
  rw [hl] at hp
  have HP := Aside0.mk (show Calls Try.prog 50 #[.pointer (some ⟨G, 0, none⟩)] w3 fun e w' => (∃ u, e = .returned u) ∧ Front w0 w' G F cap (popL qs) from hp)
  clear hf HD HF2 hl hp HF3
  have hm := m_pop G
  go_wp2_with fail
  refine HP.out.mono ?_
  rintro en w4 ⟨⟨u4, rfl⟩, hf⟩
  have HF4 := Aside0.mk hf
  clear hf HP hm
  go_wp2_with fail
  go_ret
  exact ⟨⟨_, rfl⟩, HF4.out⟩
end Go.Proofs.Ytcdgenoakpmlbaa.Mix
