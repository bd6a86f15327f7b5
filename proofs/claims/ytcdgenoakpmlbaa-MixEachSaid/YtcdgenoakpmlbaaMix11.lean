/- Merge: what is called back, and the whole. -/
import Derived.Test.YtcdgenoakpmlbaaMix10
import Derived.Test.YtcdgenoakpmlbaaMixTold
namespace Go.Proofs.Ytcdgenoakpmlbaa.Mix
open Go.RowKit Go.Proofs.YtcdgenoakpmlbaaW.PrintWords Go.Proofs.YtcdgenoakpmlbaaW.PrintLast Go.Proofs.YtcdgenoakpmlbaaW.PrintMore
open Go.Proofs.Ytcdgenoakpmlbaa Go.Proofs.Ytcdgenoakpmlbaa.Vals Go.Proofs.Ytcdgenoakpmlbaa.Q
set_option linter.unusedVariables false
set_option linter.unusedSimpArgs false

theorem R_tight {w : World} {base e : Nat} {ok : Nat → Prop} {v : Value} {xs : List S32} (h : k32.R e w base ok v xs) : k32.R e w base (fun k => v.ownBlock = some k) v xs :=
  ⟨fun k hk => hk, h.2.imp_ (fun p c hp => by rw [k32_openM hp]; exact k32_mkM _ _ _ p)⟩
/-- A cell at X that holds a row of pairs of its own, made since w0. -/
structure Out (w0 : World) (X : Nat) (w : World) (xs : List S32) (v : Value) : Prop where
  ex : w.heap[X]? = some (.cells #[v] 25 (0, 0))
  low : w0.heap.size ≤ X
  own : k32.R 32 w w0.heap.size (fun k => v.ownBlock = some k) v xs
theorem Out.ne {w0 w : World} {X : Nat} {xs : List S32} {v : Value} (h : Out w0 X w xs v) : some X ≠ v.ownBlock := Kd.R_ne h.own h.ex (by decide)
theorem Out.lt {w0 w : World} {X : Nat} {xs : List S32} {v : Value} (h : Out w0 X w xs v) {k : Nat} (hk : v.ownBlock = some k) : w0.heap.size ≤ k ∧ k < w.heap.size := by
  obtain ⟨inner, ho⟩ := Kd.R_own h.own
  exact ho.lt k hk
theorem Out.stay {w0 w w' : World} {X : Nat} {xs : List S32} {v : Value} (h : Out w0 X w xs v) (h1 : w'.heap[X]? = w.heap[X]?) (h2 : ∀ k, v.ownBlock = some k → w'.heap[k]? = w.heap[k]?) : Out w0 X w' xs v :=
  ⟨h1.trans h.ex, h.low, Kd.R_move h.own h2⟩
theorem Out.keep {w0 w w' : World} {X : Nat} {xs : List S32} {v : Value} (h : Out w0 X w xs v) (hb : Below w.heap.size w w') : Out w0 X w' xs v :=
  h.stay (hb.block X (blk_lt h.ex)) (fun k hk => hb.block k (h.lt hk).2)
theorem info32' : (Try.prog.info? 32).map (fun i => (i.zero, i.size, i.bytes)) = some (some (.agg #[.string ⟨#[]⟩, .string ⟨#[]⟩]), 2, 32) := by kernel_rfl
set_option maxHeartbeats 4000000 in
theorem back_calls {w0 w : World} {X : Nat} {xs : List S32} {v : Value} (h : Out w0 X w xs v) (hl : xs.length < 1000000) (hw : w0.heap.size ≤ w.heap.size) (r : Int) (p : S32) :
    Calls Try.prog 17 #[.int .i64 r, .agg #[.string p.f0, .string p.f1], .pointer (some ⟨X, 0, none⟩)] w fun e w' => e = .returned (.bool true) ∧ ∃ v', Out w0 X w' (xs ++ [p]) v' ∧ (∀ k, v'.ownBlock = some k → v.ownBlock = some k ∨ w.heap.size ≤ k) ∧ Keeps (fun k => k = X ∨ v.ownBlock = some k) w w' := by
  obtain ⟨A0, c0, rfl⟩ := Kd.R_slice h.own
  have HO := Aside0.mk h
  have HL := Aside0.mk hl
  have HW := Aside0.mk hw
  clear h hl hw
  go_enter Try.func17, Try.ntmps17
  go_upto_region 1 with fail
  have hba := below_alloc (Below.refl w.heap.size w) (.cells #[.string p.f0, .string p.f1] 32)
  have HB1 := Aside0.mk hba
  have HT := Aside0.mk (blk_new w (.cells #[.string p.f0, .string p.f1] 32))
  have HO1 := Aside0.mk (HO.out.keep hba)
  clear hba
  generalize w.alloc (.cells #[.string p.f0, .string p.f1] 32) = w1 at HB1 HT HO1 ⊢
  have HXT := Aside0.mk (Nat.ne_of_gt (blk_lt HO.out.ex))
  obtain ⟨T, hT⟩ : ∃ T, w.heap.size = T := ⟨_, rfl⟩
  have k0 := (blk_cell HO1.out.ex 0).trans rfl
  have kf := blk_frozen HO1.out.ex 0
  have t0 := (blk_cell HT.out 0).trans rfl
  have t1 := (blk_cell HT.out 1).trans rfl
  rw [hT] at t0 t1 ⊢
  clear hT
  have HR := Aside0.mk (Kd.R_mono HO1.out.own (ok' := fun _ => True) (fun _ _ => trivial))
  go_wp2_with (at_builtin; refine Kd.R_append k32 (w0 := w1) w0.heap.size rfl (.tmp 6) (.tmp 8) 25 32 (.agg #[.string ⟨#[]⟩, .string ⟨#[]⟩]) 32 rfl Try.underlying25 info32' rfl (by decide) (by omega) (.slice A0 xs.length c0) xs p [.string p.f0, .string p.f1] (fun _ => True) (fun _ => False) rfl rfl ?aP (fun _ hk => hk.elim) (fun _ _ => trivial) HR.out (Below.refl _ _) ?aS ?aL ?_; (case aP => exact k32_mkM _ _ _ p); (case aS => exact Nat.le_trans HW.out HB1.out.size); (case aL => have := HL.out; omega); intro v1 w2 ho hb hg hat; have HV := Aside0.mk (R_tight ho); have HG := Aside0.mk hg; have HAT := Aside0.mk hat; have HE := Aside0.mk (show w2.heap[X]? = some (.cells #[.slice A0 xs.length c0] 25 (0, 0)) from (hg.block X (blk_lt HO1.out.ex) HO1.out.ne).trans HO1.out.ex); clear hb hg hat k0 kf t0 t1 HR; obtain ⟨A1, c1, rfl⟩ := Kd.R_slice ho; clear ho; have k0 := (blk_cell HE.out 0).trans rfl; have kf := blk_frozen HE.out 0)
  have e1 : (xs ++ [p]).length = xs.length + 1 := by simp
  have HV2 := HV.out
  have HAT2 := HAT.out
  rw [e1] at HV2 HAT2
  go_ret
  refine ⟨rfl, .slice A1 (xs.length + 1) c1, ⟨blk_put HE.out 0 _ rfl, HO.out.low, ?_⟩, fun k hk => ?_, ?_⟩
  · exact Kd.R_far (p := ⟨X, 0, none⟩) HV2 (fun k hk e => Kd.R_ne HV2 HE.out (by decide) (by rw [hk]; rw [show k = X from e])) _
  · rcases HAT2 with h | ⟨b, h, hb⟩
    · exact Or.inl (by rw [← h]; exact hk)
    · rw [hk] at h
      injection h with h
      exact Or.inr (by rw [h]; exact Nat.le_trans HB1.out.size hb)
  · have h2 : Keeps (fun k => k = X ∨ (Value.slice A0 xs.length c0).ownBlock = some k) w1 w2 := ⟨HG.out.os, HG.out.tape, HG.out.output, HG.out.size, fun k hk hn => HG.out.block k hk (fun e => hn (Or.inr e.symm))⟩
    exact ((Keeps.of_below HB1.out _).trans h2).set (p := ⟨X, 0, none⟩) (Or.inl (Or.inl rfl)) _
theorem back_cb (w0 : World) (X : Nat) (hX : w0.heap.size ≤ X) : Cb w0 17 #[.pointer (some ⟨X, 0, none⟩)] (fun _ => true) (fun w L M => ∃ v, Out w0 X w (L.map Prod.snd) v ∧ M = fun k => k = X ∨ v.ownBlock = some k) where
  enter := fun args W => by kernel_rfl
  low := by
    rintro w L M ⟨v, ho, rfl⟩ k (rfl | hk)
    · exact ⟨hX, blk_lt ho.ex⟩
    · exact ho.lt hk
  stay := by
    rintro w w' L M ⟨v, ho, rfl⟩ hk _
    exact ⟨v, ho.stay (hk X (Or.inl rfl)) (fun k h => hk k (Or.inr h)), rfl⟩
  call := by
    rintro w L M r p ⟨v, ho, rfl⟩ hb hl
    refine (back_calls ho (by rw [List.length_map]; exact hl) hb.size r p).mono ?_
    rintro e w' ⟨rfl, v', ho', hf, hk⟩
    refine ⟨rfl, _, ⟨v', by rw [List.map_append]; exact ho', rfl⟩, fun k hk' => ?_, hk⟩
    rcases hk' with rfl | hk'
    · exact Or.inl (Or.inl rfl)
    · exact (hf k hk').elim (fun h => Or.inl (Or.inr h)) Or.inr
def MergePost (w : World) (rows : List (List S32)) (e : Ending) (w' : World) : Prop := ∃ v, e = .returned v ∧ k32.R 32 w' w.heap.size (fun _ => True) v (mergeB rows) ∧ Below w.heap.size w w'
set_option maxHeartbeats 4000000 in
theorem merge_calls {w : World} (A : Option Addr) (c : Nat) {rows : List (List S32)} (h : (Kd.slice 32 k32).C w A rows.length rows) (hl : rows.length ≤ 100000) (htot : (rows.map List.length).sum ≤ 100000) (hs : ∀ l ∈ rows, Sorted l) :
    Calls Try.prog 8 #[.slice A rows.length c] w (MergePost w rows) := by
  have hba := below_alloc (Below.refl w.heap.size w) (.cells #[.slice none 0 0] 25)
  have HB := Aside0.mk hba
  have hO : Out w w.heap.size (w.alloc (.cells #[.slice none 0 0] 25)) [] (.slice none 0 0) := ⟨blk_new w _, Nat.le_refl _, Kd.R_nil _ _ _ _ _⟩
  have HE := Aside0.mk (each_calls A c h hl hba 17 #[.pointer (some ⟨w.heap.size, 0, none⟩)] (back_cb w w.heap.size (Nat.le_refl _)) ⟨_, hO, rfl⟩ htot)
  have HS := Aside0.mk hs
  clear h hl htot hs hO hba
  go_enter Try.func8, Try.ntmps8
  go_wp2_with fail
  refine HE.out.mono ?_
  rintro en w2 ⟨⟨u, rfl⟩, qs, M, hst, ⟨v, ho, rfl⟩, hb⟩
  have k0 := (blk_cell ho.ex 0).trans rfl
  have HO := Aside0.mk ho
  have HST := Aside0.mk hst
  have HB2 := Aside0.mk hb
  clear ho hst hb HE HB
  go_wp2_with fail
  go_ret
  refine ⟨_, rfl, ?_, HB2.out⟩
  have h1 := HO.out.own
  rw [runL_tell, cutL_all (fun _ => rfl), List.nil_append, (told_merge (start_told HST.out HS.out) HS.out).1] at h1
  exact Kd.R_mono h1 (fun _ _ => trivial)
end Go.Proofs.Ytcdgenoakpmlbaa.Mix
