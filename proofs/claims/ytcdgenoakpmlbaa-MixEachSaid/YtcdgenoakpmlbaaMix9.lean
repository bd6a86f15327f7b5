/- The front's Push, and the heap's. -/
import Derived.Test.YtcdgenoakpmlbaaMix8
import Derived.RegionTactic
import Derived.Deep.RegionLaw
namespace Go.Proofs.Ytcdgenoakpmlbaa.Mix
open Go.RowKit Go.Proofs.YtcdgenoakpmlbaaW.PrintWords Go.Proofs.YtcdgenoakpmlbaaW.PrintLast Go.Proofs.YtcdgenoakpmlbaaW.PrintMore
open Go.Proofs.Ytcdgenoakpmlbaa Go.Proofs.Ytcdgenoakpmlbaa.Vals Go.Proofs.Ytcdgenoakpmlbaa.Q
set_option linter.unusedVariables false
set_option linter.unusedSimpArgs false

theorem info_cur : (Try.prog.info? 44).map (fun i => (i.zero, i.size, i.bytes)) = some (some (.agg #[.int .i64 0, .slice none 0 0]), 2, 32) := by kernel_rfl
theorem ta_cur (v : Value) (W : World) : (Instr.typeAssert (.iface 44 v) 20 44 true).run Try.prog W = .ok (.tuple #[v, .bool true]) W := by kernel_rfl
theorem two_at {α : Type} {l : List α} {k : Nat} {a b : α} (h1 : l[k]? = some a) (h2 : l[k + 1]? = some b) : (l.drop k).take 2 = [a, b] := by
  obtain ⟨hk, rfl⟩ := List.getElem?_eq_some_iff.1 h1
  obtain ⟨hk2, rfl⟩ := List.getElem?_eq_some_iff.1 h2
  rw [List.drop_eq_getElem_cons hk, List.drop_eq_getElem_cons hk2]
  rfl
theorem at_two {α : Type} {l : List α} {k : Nat} {a b : α} (h : (l.drop k).take 2 = [a, b]) : l[k]? = some a ∧ l[k + 1]? = some b := by
  have h0 : ((l.drop k).take 2)[0]? = some a := by rw [h]; rfl
  have h1 : ((l.drop k).take 2)[1]? = some b := by rw [h]; rfl
  rw [List.getElem?_take_of_lt (by omega), List.getElem?_drop] at h0 h1
  exact ⟨h0, h1⟩
theorem kc_sz : kc.sz = 2 := rfl
theorem FR.R {w : World} {F cap : Nat} {cs : List Cu} (h : FR w F (2 * cap) cs) (hc : cap ≤ maxLen) {B : Nat} (hB : B ≤ F) (n : Nat) (hn : n = cs.length) : kc.R 44 w B (fun _ => True) (.slice (some ⟨F, 0, none⟩) n cap) cs := by
  subst hn
  obtain ⟨cur, h1, ⟨h2, h3⟩, h4⟩ := h
  have hz : cur.toList.length = cur.size := Array.length_toList
  have hl : (cur.toList.take (cs.length * 2)).length = cs.length * 2 := by rw [List.length_take]; omega
  refine ⟨fun _ _ => trivial, cur.toList.take (cs.length * 2), ⟨hl, Or.inr ⟨F, cap, cur, rfl, hB, h1, by rw [h3] at h2; omega, hc, by rw [h3, kc_sz]; omega, rfl⟩⟩, hl, fun j p hj => ?_⟩
  obtain ⟨hjl, rfl⟩ := List.getElem?_eq_some_iff.1 hj
  obtain ⟨c0, c1⟩ := h4 j hjl
  rw [kc_sz, two_at (a := .int .i64 (cs[j]).row) (b := .slice (cs[j]).A (cs[j]).n (cs[j]).c)]
  · exact kc_mkM _ _ _ _
  · rw [List.getElem?_take_of_lt (by omega), Array.getElem?_toList]; exact c0
  · rw [List.getElem?_take_of_lt (by omega), Array.getElem?_toList]; exact c1
theorem FR_of_R {w : World} {base : Nat} {ok : Nat → Prop} {v : Value} {cs : List Cu} (h : kc.R 44 w base ok v cs) (h0 : 0 < cs.length) :
    ∃ F cap, v = .slice (some ⟨F, 0, none⟩) cs.length cap ∧ base ≤ F ∧ cap ≤ maxLen ∧ FR w F (2 * cap) cs := by
  obtain ⟨_, inner, ⟨hl, hor⟩, hr⟩ := h
  rcases hor with ⟨_, hz⟩ | ⟨F, cap, cur, rfl, hb, hh, hnc, hcm, hcs, htk⟩
  · omega
  · rw [kc_sz] at hl hcs htk
    refine ⟨F, cap, rfl, hb, hcm, cur, hh, ⟨by rw [hcs]; omega, by omega⟩, fun i hi => ?_⟩
    have h2 := kc_open (kc.K_of_M (hr.2 i _ (List.getElem?_eq_getElem hi)))
    rw [kc_sz] at h2
    obtain ⟨g0, g1⟩ := at_two h2
    have hlt : i * 2 + 1 < cs.length * 2 := by omega
    rw [← htk, List.getElem?_take_of_lt (by omega), Array.getElem?_toList] at g0
    rw [← htk, List.getElem?_take_of_lt hlt, Array.getElem?_toList] at g1
    exact ⟨g0, g1⟩
theorem Front.pushed {w0 : Gh} {wq w2 : World} {G F cap F' cap' : Nat} {qs : List Qu} {q : Qu} {s : Value} (h : Front w0 wq G F cap qs) (hS : ∀ j, w0.we.heap.size ≤ j → w0.S j) (hg : wq.grownBy w2 (.slice (some ⟨F, 0, none⟩) qs.length cap : Value).ownBlock) (hat : F' = F ∨ wq.heap.size ≤ F') (hl : qs.length < 1000000) (hq : 0 < q.l.length ∧ q.x.n = q.l.length ∧ k32.C w0.w0 q.x.A q.x.n q.l ∧ q.x.n ≤ q.x.c)
    (hG : w2.heap[G]? = some (.cells #[s] 41 (0, 0))) (hb : Below w0.w0.heap.size wq w2) (hv : w0.w0.heap.size ≤ F' ∧ FR w2 F' (2 * cap') (qs.map Qu.x ++ [q.x])) :
    Front w0 (w2.setCell ⟨G, 0, none⟩ (.slice (some ⟨F', 0, none⟩) (qs.length + 1) cap')) G F' cap' (qs ++ [q]) := by
  have hne : F' ≠ G := by
    rintro rfl
    obtain ⟨cur, h1, _⟩ := hv.2
    rw [hG] at h1
    injection h1 with h1
    injection h1 with _ h1
    exact absurd h1 (by decide)
  refine ⟨?_, ?_, hne, ⟨hv.1, h.low.2⟩, fun y hy => ?_, by simp; omega, ?_, ⟨h.inS.1, ?_⟩, ?_⟩
  · rw [List.length_append]
    exact blk_put hG 0 _ rfl
  · rw [List.map_append]
    exact hv.2.mono (Below.heap_setCell w2 ⟨G, 0, none⟩ _ F' hne)
  · rcases List.mem_append.1 hy with hy | hy
    · exact h.rows y hy
    · rw [List.mem_singleton.1 hy]
      exact hq
  · have h2 : Below w0.w0.heap.size w0.w0 w2 := ⟨hb.os.trans h.old.os, hb.tape.trans h.old.tape, hb.output.trans h.old.output, Nat.le_trans h.old.size hb.size, fun k hk => (hb.block k hk).trans (h.old.block k hk)⟩
    exact Keeps.below_then h2 (Nat.le_refl _) ((Keeps.refl (fun j => j = G) w2).set (p := ⟨G, 0, none⟩) (Or.inl rfl) _) (fun j hj => by have h1 : j = G := hj; have := h.low.2; omega)
  · rcases hat with rfl | h1
    · exact h.inS.2
    · exact hS _ (Nat.le_trans h.mark.size h1)
  · have h1 : Keeps w0.S w0.we w2 := ⟨hg.os.trans h.mark.os, hg.tape.trans h.mark.tape, hg.output.trans h.mark.output, Nat.le_trans h.mark.size hg.size, fun k hk hn => (hg.block k (Nat.lt_of_lt_of_le hk h.mark.size) (fun e => hn (by cases e; exact h.inS.2))).trans (h.mark.block k hk hn)⟩
    exact h1.set (p := ⟨G, 0, none⟩) (Or.inl h.inS.1) _
set_option maxHeartbeats 4000000 in
theorem fpush_calls {w0 : Gh} {w : World} {G F cap : Nat} {qs : List Qu} (hS : ∀ j, w0.we.heap.size ≤ j → w0.S j) (h : Front w0 w G F cap qs) (hcm : cap ≤ maxLen) (hl : qs.length < 1000000) (q : Qu) (hq : 0 < q.l.length ∧ q.x.n = q.l.length ∧ k32.C w0.w0 q.x.A q.x.n q.l ∧ q.x.n ≤ q.x.c) :
    Calls Try.prog 51 #[.pointer (some ⟨G, 0, none⟩), .iface 44 (.agg #[.int .i64 q.x.row, .slice q.x.A q.x.n q.x.c])] w fun e w' => (∃ u, e = .returned u) ∧ ∃ F' cap', cap' ≤ maxLen ∧ Front w0 w' G F' cap' (qs ++ [q]) := by
  have HF := Aside0.mk h
  have HQ := Aside0.mk hq
  have HL := Aside0.mk (And.intro hl hcm)
  have HS := Aside0.mk hS
  have hta := fun v W => ta_cur v W
  clear h hq hl hcm hS
  go_enter Try.func51, Try.ntmps51
  go_upto_region 2 with fail
  have hba := below_alloc (Below.refl w.heap.size w) (.cells #[.int .i64 q.x.row, .slice q.x.A q.x.n q.x.c] 44)
  have HT := Aside0.mk (blk_new w (.cells #[.int .i64 q.x.row, .slice q.x.A q.x.n q.x.c] 44))
  have HF1 := Aside0.mk (HF.out.mono hba)
  clear hba HF
  generalize w.alloc (.cells #[.int .i64 q.x.row, .slice q.x.A q.x.n q.x.c] 44) = w1 at HT HF1 ⊢
  generalize w.heap.size = T at HT ⊢
  have HF2 := Aside0.mk (HF1.out.mono (show Below w1.heap.size w1 w1.drew from pw_below_drewN (Below.refl _ _) 1))
  have k0 := HF1.out.cell
  have k1 := (HF1.out.mono (below_alloc (Below.refl w1.heap.size w1) (.cells #[.int .i64 q.x.row, .slice q.x.A q.x.n q.x.c] 44))).cell
  have t0 := (blk_cell HT.out 0).trans rfl
  have t1 := (blk_cell HT.out 1).trans rfl
  have HR := Aside0.mk (HF2.out.fr.R HL.out.2 HF2.out.low.1 qs.length (by simp))
  have HZ := Aside0.mk (HF2.out.old.size)
  have HLL := Aside0.mk (show ((qs.map Qu.x).length + 1) * 32 ≤ 140737488355328 by have := HL.out.1; rw [List.length_map]; omega)
  clear HF1 HT hta
  go_region_law ((refine Kd.R_append_step kc (w0 := w1.drew) w0.w0.heap.size (by rfl) (.tmp 15) (.tmp 17) 41 44 (.agg #[.int .i64 0, .slice none 0 0]) 32 (by rfl) Try.underlying41 info_cur (by rfl) (by decide) (by omega) (.slice (some ⟨F, 0, none⟩) qs.length cap) (qs.map Qu.x) q.x [.int .i64 q.x.row, .slice q.x.A q.x.n q.x.c] (fun _ => True) (fun _ => False) (by rfl) (by rfl) (kc_mkM _ _ _ q.x) (fun _ hk => hk.elim) (fun _ _ => trivial) HR.out (Below.refl _ _) HZ.out HLL.out ?_; intro v1 w2 ho hb hg hat; have HV := Aside0.mk (FR_of_R ho (by simp)); have HB := Aside0.mk hb; have HGR := Aside0.mk hg; have HAT := Aside0.mk hat; have HG := Aside0.mk (show w2.heap[G]? = some (.cells #[.slice (some ⟨F, 0, none⟩) qs.length cap] 41 (0, 0)) from (hg.block G (blk_lt HF2.out.ex) (fun e => by cases e; exact HF2.out.ne rfl)).trans HF2.out.ex); clear ho hb hg hat k0 k1 t0 t1 HR; obtain ⟨F', cap', rfl, hF1⟩ := HV.out; have HV := Aside0.mk hF1; have HAT := Aside0.mk (show F' = F ∨ w1.drew.heap.size ≤ F' from HAT.out.elim (fun e => Or.inl (by injection e)) (fun ⟨b, e, h⟩ => Or.inr (by injection e with e; rw [show F' = b from e]; exact h))); clear hF1; have k0 := (blk_cell HG.out 0).trans rfl; have kf := blk_frozen HG.out 0))
  all_goals exact bodyPost_end (results_none rfl _ _ _) rfl ⟨⟨_, rfl⟩, F', cap', HV.out.2.1, HF2.out.pushed HS.out HGR.out HAT.out HL.out.1 HQ.out HG.out HB.out ⟨HV.out.1, HV.out.2.2⟩⟩
set_option maxHeartbeats 4000000 in
theorem push_calls {w0 : Gh} {w : World} {G F cap : Nat} {qs : List Qu} (hS : ∀ j, w0.we.heap.size ≤ j → w0.S j) (h : Front w0 w G F cap qs) (hcm : cap ≤ maxLen) (hl : qs.length < 1000000) (q : Qu) (hq : 0 < q.l.length ∧ q.x.n = q.l.length ∧ k32.C w0.w0 q.x.A q.x.n q.l ∧ q.x.n ≤ q.x.c) :
    Calls Try.prog 20 #[.iface 39 (.pointer (some ⟨G, 0, none⟩)), .iface 44 (.agg #[.int .i64 q.x.row, .slice q.x.A q.x.n q.x.c])] w fun e w' => (∃ u, e = .returned u) ∧ ∃ F' cap', cap' ≤ maxLen ∧ Front w0 w' G F' cap' (upL (qs.length + 1) (qs ++ [q]) qs.length) := by
  have HP := Aside0.mk (fpush_calls hS h hcm hl q hq)
  have hm := m_push G
  have HL := Aside0.mk hl
  clear h hcm hl hq hS
  go_enter Try.func20, Try.ntmps20
  go_wp2_with fail
  refine HP.out.mono ?_
  rintro en w1 ⟨⟨u, rfl⟩, F', cap', hc, hf⟩
  have HF := Aside0.mk hf
  have HC := Aside0.mk hc
  clear hm HP
  have hm := m_len G hf.cell
  have hlen : (qs ++ [q]).length = qs.length + 1 := by simp
  rw [hlen] at hm
  have g1 : (qs.length : Int) < 1000000 := by have := HL.out; omega
  clear hf hc hlen
  go_wp2_with fail
  refine (len_calls (some ⟨F', 0, none⟩) (qs.length + 1) cap' _).mono ?_
  rintro en w2 ⟨rfl, rfl⟩
  clear hm
  go_wp2_with fail
  refine (up_calls HF.out (j := qs.length) (by simp)).mono ?_
  rintro en w3 ⟨⟨u3, rfl⟩, hf⟩
  have HF3 := Aside0.mk hf
  clear hf
  go_wp2_with fail
  exact bodyPost_end (results_none rfl _ _ _) rfl ⟨⟨_, rfl⟩, F', cap', HC.out, HF3.out⟩
end Go.Proofs.Ytcdgenoakpmlbaa.Mix
