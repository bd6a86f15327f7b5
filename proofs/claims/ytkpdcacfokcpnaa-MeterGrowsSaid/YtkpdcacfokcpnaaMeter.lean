/- A meter in memory: what its methods' calls come to. -/
import Derived.Test.YtkpdcacfokcpnaaMeterPlain
import Derived.Test.YtkpdcacfokcpnaaKeptL
import Derived.RegionTactic
import Derived.ChangeAlike
import Derived.Deep.QuietTactic
import Derived.BigQuiet
import Derived.Outline
namespace Go.Proofs.Ytkpdcacfokcpnaa.Q
open Go.RowKit Go.Proofs.YtkpdcacfokcpnaaW.PrintWords Go.Proofs.YtkpdcacfokcpnaaW.PrintLast Go.Proofs.YtkpdcacfokcpnaaW.PrintMore
open Go.Proofs.Ytkpdcacfokcpnaa Go.Proofs.Ytkpdcacfokcpnaa.Vals
set_option linter.unusedVariables false
set_option linter.unusedSimpArgs false

/-! What ops come to. -/
def chg (k : Int) : Bool := k == 1 || k == 2
def May (o : S37) : Prop := 1 ≤ o.f0 ∧ o.f0 ≤ 7 ∧ 1 ≤ o.f2 ∧ o.f2 ≤ 41 ∧ (o.f1 = true → chg o.f0 = true) ∧ o.f3.f0 ≤ 1099511627776 ∧ o.f3.f1 ≤ 1099511627776
instance (o : S37) : Decidable (May o) := by unfold May; infer_instance
def nChg (l : List S37) : Int := l.foldl (fun n o => if chg o.f0 then n + 1 else n) 0
def nFull (l : List S37) : Int := l.foldl (fun n o => if o.f1 then n + 1 else n) 0
def hiOf (l : List S37) : Int := l.foldl (fun h o => if o.f2 > h then o.f2 else h) 1
def sumR (l : List S37) (k : Int) : Int := l.foldl (fun s o => if o.f0 = k then s + o.f3.f0 else s) 0
def sumW (l : List S37) (k : Int) : Int := l.foldl (fun s o => if o.f0 = k then s + o.f3.f1 else s) 0
def mostOf (l : List S37) (k : Int) : Int := l.foldl (fun m o => if o.f0 = k then (if o.f3.f0 + o.f3.f1 > m then o.f3.f0 + o.f3.f1 else m) else m) 0
theorem nChg_snoc (l : List S37) (o : S37) : nChg (l ++ [o]) = if chg o.f0 then nChg l + 1 else nChg l := by simp [nChg]
theorem nFull_snoc (l : List S37) (o : S37) : nFull (l ++ [o]) = if o.f1 then nFull l + 1 else nFull l := by simp [nFull]
theorem hiOf_snoc (l : List S37) (o : S37) : hiOf (l ++ [o]) = if o.f2 > hiOf l then o.f2 else hiOf l := by simp [hiOf]
theorem sumR_snoc (l : List S37) (o : S37) (k : Int) : sumR (l ++ [o]) k = if o.f0 = k then sumR l k + o.f3.f0 else sumR l k := by simp [sumR]
theorem sumW_snoc (l : List S37) (o : S37) (k : Int) : sumW (l ++ [o]) k = if o.f0 = k then sumW l k + o.f3.f1 else sumW l k := by simp [sumW]
theorem mostOf_snoc (l : List S37) (o : S37) (k : Int) : mostOf (l ++ [o]) k = if o.f0 = k then (if o.f3.f0 + o.f3.f1 > mostOf l k then o.f3.f0 + o.f3.f1 else mostOf l k) else mostOf l k := by simp [mostOf]

/-- Ops that were heard. -/
def Heard (l : List S37) : Prop := ∀ o ∈ l, May o ∧ 0 ≤ o.f3.f0 ∧ 0 ≤ o.f3.f1
theorem Heard.snoc {l : List S37} {o : S37} (h : Heard l) (ho : May o) (h0 : 0 ≤ o.f3.f0) (h1 : 0 ≤ o.f3.f1) : Heard (l ++ [o]) := fun x hx => by
  rcases List.mem_append.1 hx with hx | hx
  · exact h x hx
  · rw [List.mem_singleton.1 hx]; exact ⟨ho, h0, h1⟩
theorem snoc_ind {P : List S37 → Prop} (h0 : P []) (hs : ∀ l o, P l → P (l ++ [o])) : ∀ l, P l := by
  intro l
  rw [← List.reverse_reverse l]
  induction l.reverse with
  | nil => exact h0
  | cons a t ih => rw [List.reverse_cons]; exact hs _ _ ih
theorem Heard.front {l : List S37} {o : S37} (h : Heard (l ++ [o])) : Heard l ∧ May o ∧ 0 ≤ o.f3.f0 ∧ 0 ≤ o.f3.f1 := ⟨fun x hx => h x (List.mem_append_left _ hx), h o (by simp)⟩
theorem heard_bd : ∀ l : List S37, Heard l → (0 ≤ nChg l ∧ nChg l ≤ l.length) ∧ (0 ≤ nFull l ∧ nFull l ≤ l.length) ∧ (1 ≤ hiOf l ∧ hiOf l ≤ 41) := by
  refine snoc_ind (fun _ => by simp [nChg, nFull, hiOf]) (fun l o ih h => ?_)
  obtain ⟨h1, h2, _⟩ := h.front
  obtain ⟨a, b, c⟩ := ih h1
  rw [nChg_snoc, nFull_snoc, hiOf_snoc, List.length_append, List.length_singleton]
  unfold May at h2
  refine ⟨?_, ?_, ?_⟩
  · split <;> omega
  · split <;> omega
  · split <;> omega
theorem sum_bd (k : Int) : ∀ l : List S37, Heard l → (0 ≤ sumR l k ∧ sumR l k ≤ l.length * 1099511627776) ∧ (0 ≤ sumW l k ∧ sumW l k ≤ l.length * 1099511627776) ∧ (0 ≤ mostOf l k ∧ mostOf l k ≤ 2199023255552) := by
  refine snoc_ind (fun _ => by simp [sumR, sumW, mostOf]) (fun l o ih h => ?_)
  obtain ⟨h1, h2, h3, h4⟩ := h.front
  obtain ⟨a, b, c⟩ := ih h1
  rw [sumR_snoc, sumW_snoc, mostOf_snoc, List.length_append, List.length_singleton]
  unfold May at h2
  refine ⟨?_, ?_, ?_⟩
  · split <;> omega
  · split <;> omega
  · split
    · split <;> omega
    · omega

/-! The meter's cells. -/
structure Met (w : World) (g : Nat) (c : Cfg) (l : List S37) : Prop where
  ex : ∃ cs : Array Value, w.heap[g]? = some (.cells cs 54 (0, 0)) ∧ cs[0]? = some (.int .i64 c.blocks) ∧ cs[1]? = some (.int .i64 c.bytes) ∧ cs[2]? = some (.int .i64 c.frames) ∧ cs[3]? = some (.int .i64 c.fan) ∧ cs[4]? = some (.int .i64 c.buf) ∧ cs[5]? = some (.int .i64 c.leaf) ∧ cs[6]? = some (.int .i64 c.key) ∧ cs[7]? = some (.int .i64 c.val) ∧
    cs[8]? = some (.bool true) ∧ cs[9]? = some (.int .i64 (l.length : Int)) ∧ cs[10]? = some (.int .i64 (nChg l)) ∧ cs[11]? = some (.int .i64 (nFull l)) ∧ cs[12]? = some (.int .i64 (hiOf l)) ∧
    ∀ k : Nat, k < 8 → cs[13 + k * 3]? = some (.int .u64 (sumR l k)) ∧ cs[13 + k * 3 + 1]? = some (.int .u64 (sumW l k)) ∧ cs[13 + k * 3 + 2]? = some (.int .u64 (mostOf l k))
  heard : Heard l
  le : l.length ≤ 1048576
theorem Met.lt {w : World} {g : Nat} {c : Cfg} {l : List S37} (h : Met w g c l) : g < w.heap.size := by
  obtain ⟨cs, h1, _⟩ := h.ex; exact blk_lt h1
theorem Met.move {w w' : World} {g : Nat} {c : Cfg} {l : List S37} (h : Met w g c l) (e : w'.heap[g]? = w.heap[g]?) : Met w' g c l := by
  obtain ⟨cs, h1, h2⟩ := h.ex
  exact ⟨⟨cs, e.trans h1, h2⟩, h.heard, h.le⟩
theorem Met.below {w w' : World} {g : Nat} {c : Cfg} {l : List S37} (h : Met w g c l) (hb : Below w.heap.size w w') : Met w' g c l := h.move (hb.block g h.lt)

/-- Nobody's meter, or one that nobody made. -/
def NoMet (w : World) (v : Value) : Prop := v = .pointer none ∨ ∃ g : Nat, v = .pointer (some ⟨g, 0, none⟩) ∧ ∃ cs : Array Value, w.heap[g]? = some (.cells cs 54 (0, 0)) ∧ cs[8]? = some (.bool false)
theorem NoMet.below {w w' : World} {v : Value} (h : NoMet w v) (hb : Below w.heap.size w w') : NoMet w' v := by
  rcases h with h | ⟨g, h1, cs, h2, h3⟩
  · exact Or.inl h
  · exact Or.inr ⟨g, h1, cs, blk_below h2 hb, h3⟩

theorem none_met {w : World} {g : Nat} {c : Cfg} {l : List S37} (h : Met w g c l) : Calls Try.prog 29 #[.pointer (some ⟨g, 0, none⟩)] w fun e w' => e = .returned (.bool false) ∧ w = w' := by
  obtain ⟨cs, h1, _, _, _, _, _, _, _, _, h8, _⟩ := h.ex
  have k8 := (blk_cell h1 8).trans h8
  clear h h1 h8
  go_enter Try.func29, Try.ntmps29
  go_wp2_with fail
  go_ret
  exact ⟨by simp, rfl⟩
theorem none_no {w : World} {v : Value} (h : NoMet w v) : Calls Try.prog 29 #[v] w fun e w' => e = .returned (.bool true) ∧ w = w' := by
  rcases h with rfl | ⟨g, rfl, cs, h1, h8⟩
  · go_enter Try.func29, Try.ntmps29
    go_wp2_with fail
    go_ret
    exact ⟨by simp, rfl⟩
  · have k8 := (blk_cell h1 8).trans h8
    clear h1 h8
    go_enter Try.func29, Try.ntmps29
    go_wp2_with fail
    go_ret
    exact ⟨by simp, rfl⟩

theorem at_in {w : World} {g : Nat} {c : Cfg} {l : List S37} (h : Met w g c l) {k : Nat} (hk : k < 8) : Calls Try.prog 30 #[.pointer (some ⟨g, 0, none⟩), .int .i64 (k : Int)] w fun e w' => e = .returned (.agg #[.int .u64 (sumR l k), .int .u64 (sumW l k), .int .u64 (mostOf l k)]) ∧ Below w.heap.size w w' := by
  have hm := h.below (below_alloc (Below.refl _ _) (.cells #[.int .u64 0, .int .u64 0, .int .u64 0] 51))
  have hbz := blk_new w (.cells #[.int .u64 0, .int .u64 0, .int .u64 0] 51)
  have HB := Aside0.mk (below_alloc (Below.refl w.heap.size w) (.cells #[.int .u64 0, .int .u64 0, .int .u64 0] 51))
  have HN := Aside0.mk (none_met hm)
  obtain ⟨cs, h1, _, _, _, _, _, _, _, _, _, _, _, _, _, h9⟩ := hm.ex
  obtain ⟨a, b, d⟩ := h9 k hk
  have ka := (blk_cell h1 (13 + k * 3)).trans a
  have kb := (blk_cell h1 (13 + k * 3 + 1)).trans b
  have kd := (blk_cell h1 (13 + k * 3 + 2)).trans d
  have z0 := (blk_cell hbz 0).trans rfl
  have z1 := (blk_cell hbz 1).trans rfl
  have z2 := (blk_cell hbz 2).trans rfl
  have y0 := blk_frozen hbz 0
  have y1 := blk_frozen hbz 1
  have y2 := blk_frozen hbz 2
  have HZ := Aside0.mk hbz
  have d1 : decide ((k : Int) < 0) = false := decide_eq_false (by omega)
  have d2 : decide ((7 : Int) < (k : Int)) = false := decide_eq_false (by omega)
  have d3 : decide (7 < k) = false := decide_eq_false (by omega)
  clear h h9 a b d h1 hm hbz
  go_enter Try.func30, Try.ntmps30
  go_wp2_with fail
  generalize w.alloc (.cells #[.int .u64 0, .int .u64 0, .int .u64 0] 51) = w1 at HN HB HZ ka kb kd z0 z1 z2 y0 y1 y2 ⊢
  refine HN.out.mono ?_
  rintro en w' ⟨rfl, rfl⟩
  go_wp2_with fail
  refine bodyPost_ret (results_cell_row rfl _ _ w.heap.size 51 #[.int .u64 (sumR l k), .int .u64 (sumW l k), .int .u64 (mostOf l k)] (0, 0) _ rfl (blk_put (blk_put (blk_put HZ.out 0 _ rfl) 1 _ rfl) 2 _ rfl) Try.underlying51 rfl (by kernel_rfl)) rfl ⟨rfl, ?_⟩
  exact below_set (below_set (below_set HB.out (Nat.le_refl _)) (Nat.le_refl _)) (Nat.le_refl _)

theorem at_none {w : World} {v : Value} (h : NoMet w v) (k : Int) : Calls Try.prog 30 #[v, .int .i64 k] w fun e w' => e = .returned (.agg #[.int .u64 0, .int .u64 0, .int .u64 0]) ∧ Below w.heap.size w w' := by
  have HN := Aside0.mk (none_no (h.below (below_alloc (Below.refl _ _) (.cells #[.int .u64 0, .int .u64 0, .int .u64 0] 51))))
  clear h
  go_enter Try.func30, Try.ntmps30
  go_wp2_with fail
  refine HN.out.mono ?_
  rintro en w' ⟨rfl, rfl⟩
  go_wp2_with fail
  exact bodyPost_ret (v := .agg #[.int .u64 0, .int .u64 0, .int .u64 0]) (by simp [results, Try.results30, go_sem]) rfl ⟨rfl, below_alloc (Below.refl _ _) _⟩
theorem at_out {w : World} {g : Nat} {c : Cfg} {l : List S37} (h : Met w g c l) {k : Int} (hk : k < 0 ∨ 7 < k) : Calls Try.prog 30 #[.pointer (some ⟨g, 0, none⟩), .int .i64 k] w fun e w' => e = .returned (.agg #[.int .u64 0, .int .u64 0, .int .u64 0]) ∧ Below w.heap.size w w' := by
  have HN := Aside0.mk (none_met (h.below (below_alloc (Below.refl _ _) (.cells #[.int .u64 0, .int .u64 0, .int .u64 0] 51))))
  have hcase : (decide (k < 0) = true) ∨ (decide (k < 0) = false ∧ decide (7 < k) = true) := by
    by_cases h1 : k < 0
    · exact Or.inl (decide_eq_true h1)
    · exact Or.inr ⟨decide_eq_false h1, decide_eq_true (hk.resolve_left h1)⟩
  clear h hk
  rcases hcase with d1 | ⟨d1, d2⟩
  all_goals
    go_enter Try.func30, Try.ntmps30
    go_wp2_with fail
    refine HN.out.mono ?_
    rintro en w' ⟨rfl, rfl⟩
    go_wp2_with fail
    exact bodyPost_ret (v := .agg #[.int .u64 0, .int .u64 0, .int .u64 0]) (by simp [results, Try.results30, go_sem]) rfl ⟨rfl, below_alloc (Below.refl _ _) _⟩
/-- What a meter has of a kind. -/
def kR (l : List S37) (k : Int) : Int := if 0 ≤ k ∧ k ≤ 7 then sumR l k else 0
def kW (l : List S37) (k : Int) : Int := if 0 ≤ k ∧ k ≤ 7 then sumW l k else 0
def kM (l : List S37) (k : Int) : Int := if 0 ≤ k ∧ k ≤ 7 then mostOf l k else 0
theorem at_any {w : World} {g : Nat} {c : Cfg} {l : List S37} (h : Met w g c l) (k : Int) : Calls Try.prog 30 #[.pointer (some ⟨g, 0, none⟩), .int .i64 k] w fun e w' => e = .returned (.agg #[.int .u64 (kR l k), .int .u64 (kW l k), .int .u64 (kM l k)]) ∧ Below w.heap.size w w' := by
  unfold kR kW kM
  by_cases hk : 0 ≤ k ∧ k ≤ 7
  · rw [if_pos hk, if_pos hk, if_pos hk]
    obtain ⟨n, rfl⟩ := Int.eq_ofNat_of_zero_le hk.1
    exact at_in h (by omega)
  · rw [if_neg hk, if_neg hk, if_neg hk]
    exact at_out h (by omega)

theorem fld0 (a b d : Int) (W : World) : (Instr.field 51 (.agg #[.int .u64 a, .int .u64 b, .int .u64 d]) 0).run Try.prog W = .ok (.agg #[.int .u64 a, .int .u64 b]) W := by kernel_rfl
theorem fld1 (a b d : Int) (W : World) : (Instr.field 51 (.agg #[.int .u64 a, .int .u64 b, .int .u64 d]) 1).run Try.prog W = .ok (.int .u64 d) W := by kernel_rfl

theorem sum_of {w : World} {v : Value} {k a b d : Int} (h : ∀ w1, Below w.heap.size w w1 → Calls Try.prog 30 #[v, .int .i64 k] w1 fun e w' => e = .returned (.agg #[.int .u64 a, .int .u64 b, .int .u64 d]) ∧ Below w1.heap.size w1 w') :
    Calls Try.prog 13 #[v, .int .i64 k] w fun e w' => e = .returned (.agg #[.int .u64 a, .int .u64 b]) ∧ Below w.heap.size w w' := by
  have HB0 := Aside0.mk (below_alloc (Below.refl w.heap.size w) (.cells #[.int .u64 0, .int .u64 0] 35))
  have HZ0 := Aside0.mk (blk_new w (.cells #[.int .u64 0, .int .u64 0] 35))
  have HA := Aside0.mk (h _ HB0.out)
  clear h
  have hf := fld0 a b d
  go_enter Try.func13, Try.ntmps13
  go_wp2_with fail
  refine HA.out.mono ?_
  rintro en w2 ⟨rfl, hb⟩
  have hz := blk_below HZ0.out hb
  have z0 := (blk_cell hz 0).trans rfl
  have z1 := (blk_cell hz 1).trans rfl
  have y0 := blk_frozen hz 0
  have y1 := blk_frozen hz 1
  have HZ := Aside0.mk hz
  have HB := Aside0.mk (below_step HB0.out hb)
  clear hz hb
  go_wp2_with fail
  refine bodyPost_ret (results_cell_row rfl _ _ w.heap.size 35 #[.int .u64 a, .int .u64 b] (0, 0) _ rfl (blk_put (blk_put HZ.out 0 _ rfl) 1 _ rfl) Try.underlying35 rfl (by kernel_rfl)) rfl ⟨rfl, ?_⟩
  exact below_set (below_set HB.out (Nat.le_refl _)) (Nat.le_refl _)
theorem most_of {w : World} {v : Value} {k a b d : Int} (h : Calls Try.prog 30 #[v, .int .i64 k] w fun e w' => e = .returned (.agg #[.int .u64 a, .int .u64 b, .int .u64 d]) ∧ Below w.heap.size w w') :
    Calls Try.prog 14 #[v, .int .i64 k] w fun e w' => e = .returned (.int .u64 d) ∧ Below w.heap.size w w' := by
  have HA := Aside0.mk h
  clear h
  have hf := fld1 a b d
  go_enter Try.func14, Try.ntmps14
  go_wp2_with fail
  refine HA.out.mono ?_
  rintro en w2 ⟨rfl, hb⟩
  have HB := Aside0.mk hb
  clear hb
  go_wp2_with fail
  go_ret
  exact ⟨by simp, HB.out⟩
theorem sum_any {w : World} {g : Nat} {c : Cfg} {l : List S37} (h : Met w g c l) (k : Int) : Calls Try.prog 13 #[.pointer (some ⟨g, 0, none⟩), .int .i64 k] w fun e w' => e = .returned (.agg #[.int .u64 (kR l k), .int .u64 (kW l k)]) ∧ Below w.heap.size w w' :=
  sum_of (fun w1 hb => at_any (h.below hb) k)
theorem sum_none {w : World} {v : Value} (h : NoMet w v) (k : Int) : Calls Try.prog 13 #[v, .int .i64 k] w fun e w' => e = .returned (.agg #[.int .u64 0, .int .u64 0]) ∧ Below w.heap.size w w' :=
  sum_of (fun w1 hb => at_none (h.below hb) k)
theorem most_any {w : World} {g : Nat} {c : Cfg} {l : List S37} (h : Met w g c l) (k : Int) : Calls Try.prog 14 #[.pointer (some ⟨g, 0, none⟩), .int .i64 k] w fun e w' => e = .returned (.int .u64 (kM l k)) ∧ Below w.heap.size w w' := most_of (at_any h k)
theorem most_none {w : World} {v : Value} (h : NoMet w v) (k : Int) : Calls Try.prog 14 #[v, .int .i64 k] w fun e w' => e = .returned (.int .u64 0) ∧ Below w.heap.size w w' := most_of (at_none h k)
end Go.Proofs.Ytkpdcacfokcpnaa.Q
