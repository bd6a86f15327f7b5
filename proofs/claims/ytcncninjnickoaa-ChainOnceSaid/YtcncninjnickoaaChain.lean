/- A chain in memory: what its methods' calls come to. -/
import Derived.Test.YtcncninjnickoaaProg
import Derived.Test.YtcncninjnickoaaChainRing
import Derived.WalkKit
import Derived.KernelRfl
import Derived.Test.YtcncninjnickoaaKeeps
import Derived.Test.YtcncninjnickoaaReg
import Derived.RegionTactic
import Derived.ChangeAlike
import Derived.WalkSpells
import Derived.IntWalk
namespace Go.Proofs.Ytcncninjnickoaa.Chain
open Go.RowKit Go.Proofs.YtcncninjnickoaaW.PrintWords Go.Proofs.YtcncninjnickoaaW.PrintLast Go.Proofs.YtcncninjnickoaaW.PrintMore
open Go.Proofs.Ytcncninjnickoaa Go.Proofs.Ytcncninjnickoaa.Ring
set_option linter.unusedVariables false
set_option linter.unusedSimpArgs false

/-- The row of links. -/
def LinksAt (w : World) (h N : Nat) (f : Links) : Prop := ∃ cs : Array Value, w.heap[h]? = some (.cells cs 49 (0, 0)) ∧
  ∀ i, i ≤ N → cs[i * 3]? = some (.int .i64 ((f i).ahead : Int)) ∧ cs[i * 3 + 1]? = some (.int .i64 ((f i).behind : Int)) ∧ cs[i * 3 + 2]? = some (.bool (f i).inn)

structure Chn (w : World) (g h N n : Nat) (f : Links) : Prop where
  obj : w.heap[g]? = some (.cells #[.slice (some ⟨h, 0, none⟩) (N + 1) (N + 1), .int .i64 (n : Int)] 46 (0, 0))
  links : LinksAt w h N f
  ne : g ≠ h
  pos : 1 ≤ N
  le : N ≤ 4096

theorem LinksAt.move {w w' : World} {h N : Nat} {f : Links} (hl : LinksAt w h N f) (e : w'.heap[h]? = w.heap[h]?) : LinksAt w' h N f := by
  obtain ⟨cs, h1, h2⟩ := hl
  exact ⟨cs, e.trans h1, h2⟩
theorem Chn.move {w w' : World} {g h N n : Nat} {f : Links} (hc : Chn w g h N n f) (eg : w'.heap[g]? = w.heap[g]?) (eh : w'.heap[h]? = w.heap[h]?) : Chn w' g h N n f :=
  ⟨eg.trans hc.obj, hc.links.move eh, hc.ne, hc.pos, hc.le⟩
theorem Chn.lt {w : World} {g h N n : Nat} {f : Links} (hc : Chn w g h N n f) : g < w.heap.size ∧ h < w.heap.size := by
  obtain ⟨cs, h1, _⟩ := hc.links
  exact ⟨blk_lt hc.obj, blk_lt h1⟩
theorem Chn.keeps {w w' : World} {g h N n : Nat} {f : Links} {S : Nat → Prop} (hc : Chn w g h N n f) (hk : Keeps S w w') (hg : ¬ S g) (hh : ¬ S h) : Chn w' g h N n f :=
  hc.move (hk.block g hc.lt.1 hg) (hk.block h hc.lt.2 hh)
theorem Chn.below {w w' : World} {g h N n : Nat} {f : Links} (hc : Chn w g h N n f) (hb : Below w.heap.size w w') : Chn w' g h N n f :=
  hc.move (hb.block g hc.lt.1) (hb.block h hc.lt.2)

theorem LinksAt.cells {w : World} {h N : Nat} {f : Links} (hl : LinksAt w h N f) {i : Nat} (hi : i ≤ N) :
    w.cell? ⟨h, i * 3, none⟩ = some (.int .i64 ((f i).ahead : Int)) ∧ w.cell? ⟨h, i * 3 + 1, none⟩ = some (.int .i64 ((f i).behind : Int)) ∧ w.cell? ⟨h, i * 3 + 2, none⟩ = some (.bool (f i).inn) := by
  obtain ⟨cs, h1, h2⟩ := hl
  rw [blk_cell h1, blk_cell h1, blk_cell h1]
  exact h2 i hi
theorem LinksAt.frozen {w : World} {h N : Nat} {f : Links} (hl : LinksAt w h N f) (j : Nat) : w.frozen? ⟨h, j, none⟩ = false := by
  obtain ⟨cs, h1, _⟩ := hl
  exact blk_frozen h1 j

theorem LinksAt.setA {w : World} {h N : Nat} {f : Links} (hl : LinksAt w h N f) (j x : Nat) : LinksAt (w.setCell ⟨h, j * 3, none⟩ (.int .i64 (x : Int))) h N (setA f j x) := by
  obtain ⟨cs, h1, h2⟩ := hl
  refine ⟨cs.setIfInBounds (j * 3) (.int .i64 (x : Int)), blk_set h1 _ _, fun i hi => ?_⟩
  obtain ⟨a, b, c⟩ := h2 i hi
  have lt := (Array.getElem?_eq_some_iff.1 a).1
  refine ⟨?_, ?_, ?_⟩
  · by_cases e : i = j
    · subst e
      rw [Array.getElem?_setIfInBounds_self_of_lt lt]
      simp [Ring.setA, upd]
    · rw [Array.getElem?_setIfInBounds_ne (by omega), a]
      simp [Ring.setA, upd, e]
  · rw [Array.getElem?_setIfInBounds_ne (by omega), b]
    by_cases e : i = j
    · subst e; simp [Ring.setA, upd]
    · simp [Ring.setA, upd, e]
  · rw [Array.getElem?_setIfInBounds_ne (by omega), c]
    by_cases e : i = j
    · subst e; simp [Ring.setA, upd]
    · simp [Ring.setA, upd, e]
theorem LinksAt.setB {w : World} {h N : Nat} {f : Links} (hl : LinksAt w h N f) (j x : Nat) : LinksAt (w.setCell ⟨h, j * 3 + 1, none⟩ (.int .i64 (x : Int))) h N (setB f j x) := by
  obtain ⟨cs, h1, h2⟩ := hl
  refine ⟨cs.setIfInBounds (j * 3 + 1) (.int .i64 (x : Int)), blk_set h1 _ _, fun i hi => ?_⟩
  obtain ⟨a, b, c⟩ := h2 i hi
  have lt := (Array.getElem?_eq_some_iff.1 b).1
  refine ⟨?_, ?_, ?_⟩
  · rw [Array.getElem?_setIfInBounds_ne (by omega), a]
    by_cases e : i = j
    · subst e; simp [Ring.setB, upd]
    · simp [Ring.setB, upd, e]
  · by_cases e : i = j
    · subst e
      rw [Array.getElem?_setIfInBounds_self_of_lt lt]
      simp [Ring.setB, upd]
    · rw [Array.getElem?_setIfInBounds_ne (by omega), b]
      simp [Ring.setB, upd, e]
  · rw [Array.getElem?_setIfInBounds_ne (by omega), c]
    by_cases e : i = j
    · subst e; simp [Ring.setB, upd]
    · simp [Ring.setB, upd, e]
theorem LinksAt.set3 {w : World} {h N : Nat} {f : Links} (hl : LinksAt w h N f) (j x y : Nat) (z : Bool) :
    LinksAt (((w.setCell ⟨h, j * 3, none⟩ (.int .i64 (x : Int))).setCell ⟨h, j * 3 + 1, none⟩ (.int .i64 (y : Int))).setCell ⟨h, j * 3 + 2, none⟩ (.bool z)) h N (upd f j ⟨x, y, z⟩) := by
  obtain ⟨cs, h1, h2⟩ := hl
  refine ⟨((cs.setIfInBounds (j * 3) (.int .i64 (x : Int))).setIfInBounds (j * 3 + 1) (.int .i64 (y : Int))).setIfInBounds (j * 3 + 2) (.bool z), blk_set (blk_set (blk_set h1 _ _) _ _) _ _, fun i hi => ?_⟩
  obtain ⟨a, b, c⟩ := h2 i hi
  have lta := (Array.getElem?_eq_some_iff.1 a).1
  have ltb := (Array.getElem?_eq_some_iff.1 b).1
  have ltc := (Array.getElem?_eq_some_iff.1 c).1
  by_cases e : i = j
  · subst e
    refine ⟨?_, ?_, ?_⟩
    · rw [Array.getElem?_setIfInBounds_ne (by omega), Array.getElem?_setIfInBounds_ne (by omega), Array.getElem?_setIfInBounds_self_of_lt lta]
      simp [upd]
    · rw [Array.getElem?_setIfInBounds_ne (by omega), Array.getElem?_setIfInBounds_self_of_lt (by simpa using ltb)]
      simp [upd]
    · rw [Array.getElem?_setIfInBounds_self_of_lt (by simpa using ltc)]
      simp [upd]
  · refine ⟨?_, ?_, ?_⟩
    all_goals rw [Array.getElem?_setIfInBounds_ne (by omega), Array.getElem?_setIfInBounds_ne (by omega), Array.getElem?_setIfInBounds_ne (by omega)]
    · rw [a]; simp [upd, e]
    · rw [b]; simp [upd, e]
    · rw [c]; simp [upd, e]

theorem Chn.setA {w : World} {g h N n : Nat} {f : Links} (hc : Chn w g h N n f) (j x : Nat) : Chn (w.setCell ⟨h, j * 3, none⟩ (.int .i64 (x : Int))) g h N n (setA f j x) :=
  ⟨((Keeps.refl (fun k => k = h) w).set (Or.inl rfl) _).blk hc.obj hc.ne, hc.links.setA j x, hc.ne, hc.pos, hc.le⟩
theorem Chn.setB {w : World} {g h N n : Nat} {f : Links} (hc : Chn w g h N n f) (j x : Nat) : Chn (w.setCell ⟨h, j * 3 + 1, none⟩ (.int .i64 (x : Int))) g h N n (setB f j x) :=
  ⟨((Keeps.refl (fun k => k = h) w).set (Or.inl rfl) _).blk hc.obj hc.ne, hc.links.setB j x, hc.ne, hc.pos, hc.le⟩
theorem Chn.set3 {w : World} {g h N n : Nat} {f : Links} (hc : Chn w g h N n f) (j x y : Nat) (z : Bool) :
    Chn (((w.setCell ⟨h, j * 3, none⟩ (.int .i64 (x : Int))).setCell ⟨h, j * 3 + 1, none⟩ (.int .i64 (y : Int))).setCell ⟨h, j * 3 + 2, none⟩ (.bool z)) g h N n (upd f j ⟨x, y, z⟩) :=
  ⟨((((Keeps.refl (fun k => k = h) w).set (Or.inl rfl) _).set (Or.inl rfl) _).set (Or.inl rfl) _).blk hc.obj hc.ne, hc.links.set3 j x y z, hc.ne, hc.pos, hc.le⟩
theorem Chn.setN {w : World} {g h N n : Nat} {f : Links} (hc : Chn w g h N n f) (m : Nat) : Chn (w.setCell ⟨g, 1, none⟩ (.int .i64 (m : Int))) g h N m f :=
  ⟨(blk_set hc.obj _ _).trans rfl, hc.links.move (((Keeps.refl (fun k => k = g) w).set (Or.inl rfl) _).block h hc.lt.2 (Ne.symm hc.ne)), hc.ne, hc.pos, hc.le⟩
theorem Chn.alloc {w : World} {g h N n : Nat} {f : Links} (hc : Chn w g h N n f) (o : Obj) : Chn (w.alloc o) g h N n f := hc.below (below_alloc (Below.refl _ _) o)
theorem Chn.drew {w : World} {g h N n : Nat} {f : Links} (hc : Chn w g h N n f) : Chn w.drew g h N n f := hc.move rfl rfl

def SetOf (g h : Nat) : Nat → Prop := fun k => k = g ∨ k = h

theorem root_calls {w : World} {g h N n : Nat} {f : Links} (hc : Chn w g h N n f) : Calls Try.prog 22 #[.pointer (some ⟨g, 0, none⟩)] w fun e w' => e = .returned (.int .i64 (N : Int)) ∧ w = w' := by
  have h0 := (blk_cell hc.obj 0).trans rfl
  have hle := hc.le
  go_enter Try.func22, Try.ntmps22
  go_wp2
  go_ret
  exact ⟨by simp, rfl⟩

set_option maxHeartbeats 1000000 in
theorem out_not {w : World} {g h N n : Nat} {f : Links} (hc : Chn w g h N n f) {i : Nat} (hi : i < N) (hin : (f i).inn = false) :
    Calls Try.prog 24 #[.pointer (some ⟨g, 0, none⟩), .int .i64 (i : Int)] w fun e w' => (∃ v, e = .returned v) ∧ Below w.heap.size w w' := by
  have h0 := (blk_cell hc.obj 0).trans rfl
  obtain ⟨hA, hB, hI⟩ := hc.links.cells (i := i) (by omega)
  rw [hin] at hI
  have hle := hc.le
  have hlt := hc.lt
  have hk1 : (i : Int) < (N : Int) + 1 := by omega
  clear hc
  go_enter Try.func24, Try.ntmps24
  go_wp2
  exact bodyPost_ret (results_none rfl _ _ _) rfl ⟨⟨_, rfl⟩, below_alloc (Below.refl _ _) _⟩

set_option maxHeartbeats 2000000 in
theorem out_in {w : World} {g h N n : Nat} {f : Links} (hc : Chn w g h N n f) (hn : 1 ≤ n) (hn2 : n ≤ 4096) {i : Nat} (hi : i < N) (hin : (f i).inn = true) (ha : (f i).ahead ≤ N) (hb : (f i).behind ≤ N) :
    Calls Try.prog 24 #[.pointer (some ⟨g, 0, none⟩), .int .i64 (i : Int)] w fun e w' => (∃ v, e = .returned v) ∧ Chn w' g h N (n - 1) (outF f i) ∧ Keeps (SetOf g h) w w' := by
  have h0 := (blk_cell hc.obj 0).trans rfl
  have h1 := (blk_cell hc.obj 1).trans rfl
  have hfg1 := blk_frozen hc.obj 1
  obtain ⟨hA, hB, hI⟩ := hc.links.cells (i := i) (by omega)
  rw [hin] at hI
  have hle := hc.le
  obtain ⟨lg, lh⟩ := hc.lt
  have hk1 : (i : Int) < (N : Int) + 1 := by omega
  obtain ⟨a, hfa⟩ : ∃ a, (f i).ahead = a := ⟨_, rfl⟩
  obtain ⟨b, hfb⟩ : ∃ b, (f i).behind = b := ⟨_, rfl⟩
  rw [hfa] at hA ha
  rw [hfb] at hB hb
  have hak : (a : Int) < (N : Int) + 1 := by omega
  have hbk : (b : Int) < (N : Int) + 1 := by omega
  have tA := (hc.links.cells (i := a) ha).2.1
  have tB := (hc.links.cells (i := b) hb).1
  have fA := hc.links.frozen (a * 3 + 1)
  have fB := hc.links.frozen (b * 3)
  have f0 := hc.links.frozen (i * 3)
  have f1 := hc.links.frozen (i * 3 + 1)
  have f2 := hc.links.frozen (i * 3 + 2)
  have n1 : h ≠ w.heap.size := by omega
  have n2 : g ≠ w.heap.size := by omega
  have n3 : g ≠ h := hc.ne
  have n4 : w.heap.size ≠ h := by omega
  have n5 : w.heap.size ≠ g := by omega
  have n6 : h ≠ g := Ne.symm n3
  have hc2 := ((hc.setB a b).alloc (.cells #[.int .i64 (a : Int), .int .i64 (b : Int), .bool true] 49 (0, 0))).drew
  have hk2 : Keeps (SetOf g h) w (World.drew (World.alloc (World.setCell w ⟨h, a * 3 + 1, none⟩ (.int .i64 (b : Int))) (.cells #[.int .i64 (a : Int), .int .i64 (b : Int), .bool true] 49 (0, 0)))) :=
    (((Keeps.refl (SetOf g h) w).set (Or.inl (Or.inr rfl)) _).alloc _).drew
  have hx2 : (World.drew (World.alloc (World.setCell w ⟨h, a * 3 + 1, none⟩ (.int .i64 (b : Int))) (.cells #[.int .i64 (a : Int), .int .i64 (b : Int), .bool true] 49 (0, 0)))).heap[w.heap.size]? = some (.cells #[.int .i64 (a : Int), .int .i64 (b : Int), .bool true] 49 (0, 0)) := by
    have := blk_new (World.setCell w ⟨h, a * 3 + 1, none⟩ (.int .i64 (b : Int))) (.cells #[.int .i64 (a : Int), .int .i64 (b : Int), .bool true] 49 (0, 0))
    simpa [World.setCell, World.drew] using this
  have HC := Aside0.mk hc2
  have HX := Aside0.mk hx2
  have HK := Aside0.mk hk2
  clear hc2 hx2 hk2
  have HFA := Aside0.mk hfa
  have HFB := Aside0.mk hfb
  clear hc hfa hfb
  go_enter Try.func24, Try.ntmps24
  go_wp2_with fail
  go_region
  go_wp2_with fail
  generalize (World.drew (World.alloc (World.setCell w ⟨h, a * 3 + 1, none⟩ (.int .i64 (b : Int))) (.cells #[.int .i64 (a : Int), .int .i64 (b : Int), .bool true] 49 (0, 0)))) = w2 at HC HX HK ⊢
  clear h0 h1 hfg1 hA hB hI tA tB fA fB f0 f1 f2
  have hc := HC.out
  have hx := HX.out
  have h0 := (blk_cell hc.obj 0).trans rfl
  have h1 := (blk_cell hc.obj 1).trans rfl
  have hfg1 := blk_frozen hc.obj 1
  have x0 := (blk_cell hx 0).trans rfl
  have x1 := (blk_cell hx 1).trans rfl
  have tB := (hc.links.cells (i := b) hb).1
  have fB := hc.links.frozen (b * 3)
  clear hc hx
  go_region
  have HC' := Aside0.mk ((HC.out.setA b a).drew)
  have HK' := Aside0.mk ((HK.out.set (p := ⟨h, b * 3, none⟩) (Or.inl (Or.inr rfl)) (.int .i64 (a : Int))).drew)
  clear HC HK HX h0 h1 hfg1 x0 x1 tB fB
  generalize (World.drew (World.setCell w2 ⟨h, b * 3, none⟩ (.int .i64 (a : Int)))) = w3 at HC' HK' ⊢
  have hc := HC'.out
  have h0 := (blk_cell hc.obj 0).trans rfl
  have h1 := (blk_cell hc.obj 1).trans rfl
  have hfg1 := blk_frozen hc.obj 1
  obtain ⟨hA, hB, hI⟩ := hc.links.cells (i := i) (by omega)
  have f0 := hc.links.frozen (i * 3)
  have f1 := hc.links.frozen (i * 3 + 1)
  have f2 := hc.links.frozen (i * 3 + 2)
  clear hc
  go_wp2_with fail
  have hc := ((HC'.out.set3 i 0 0 false).setN (n - 1))
  have hk := (((((HK'.out.set (p := ⟨h, i * 3, none⟩) (Or.inl (Or.inr rfl)) (.int .i64 ((0 : Nat) : Int))).set (p := ⟨h, i * 3 + 1, none⟩) (Or.inl (Or.inr rfl)) (.int .i64 ((0 : Nat) : Int))).set (p := ⟨h, i * 3 + 2, none⟩) (Or.inl (Or.inr rfl)) (.bool false)).set (p := ⟨g, 1, none⟩) (Or.inl (Or.inl rfl)) (.int .i64 ((n - 1 : Nat) : Int))))
  rw [show ((n - 1 : Nat) : Int) = (n : Int) - 1 from by omega] at hc hk
  refine bodyPost_end (results_none rfl _ _ _) rfl ⟨⟨_, rfl⟩, ?_, hk⟩
  have hf : outF f i = upd (Ring.setA (Ring.setB f a b) b a) i ⟨0, 0, false⟩ := by
    have e1 := HFA.out
    have e2 := HFB.out
    subst e1; subst e2; rfl
  rw [hf]
  exact hc

set_option maxHeartbeats 2000000 in
theorem put_calls {w : World} {g h N n : Nat} {f : Links} (hc : Chn w g h N n f) (hn2 : n ≤ 4096) {i z : Nat} (hi : i < N) (hz : z ≤ N) (hb : (f z).behind ≤ N) :
    Calls Try.prog 25 #[.pointer (some ⟨g, 0, none⟩), .int .i64 (i : Int), .int .i64 (z : Int)] w fun e w' => (∃ v, e = .returned v) ∧ Chn w' g h N (n + 1) (putF f i z) ∧ Keeps (SetOf g h) w w' := by
  obtain ⟨b, hfb⟩ : ∃ b, (f z).behind = b := ⟨_, rfl⟩
  rw [hfb] at hb
  have h0 := (blk_cell hc.obj 0).trans rfl
  have h1 := (blk_cell hc.obj 1).trans rfl
  have hfg1 := blk_frozen hc.obj 1
  obtain ⟨hA, hB, hI⟩ := hc.links.cells (i := i) (by omega)
  have f0 := hc.links.frozen (i * 3)
  have f1 := hc.links.frozen (i * 3 + 1)
  have f2 := hc.links.frozen (i * 3 + 2)
  obtain ⟨zA, zB, zI⟩ := hc.links.cells (i := z) hz
  rw [hfb] at zB
  have hle := hc.le
  have n3 : g ≠ h := hc.ne
  have n6 : h ≠ g := Ne.symm n3
  have hk1 : (i : Int) < (N : Int) + 1 := by omega
  have hk2 : (z : Int) < (N : Int) + 1 := by omega
  have hk3 : (b : Int) < (N : Int) + 1 := by omega
  have HC := Aside0.mk (hc.set3 i z b true)
  have HK := Aside0.mk ((((Keeps.refl (SetOf g h) w).set (p := ⟨h, i * 3, none⟩) (Or.inl (Or.inr rfl)) (.int .i64 (z : Int))).set (p := ⟨h, i * 3 + 1, none⟩) (Or.inl (Or.inr rfl)) (.int .i64 (b : Int))).set (p := ⟨h, i * 3 + 2, none⟩) (Or.inl (Or.inr rfl)) (.bool true))
  have HFB := Aside0.mk hfb
  clear hc hfb
  go_enter Try.func25, Try.ntmps25
  go_wp2_with (guard_target = wpList _ _ _ (Oper.mk _ (Op.nilCheck (Operand.tmp 24)) _ _ _ _ :: _) _ _; refine Aside0.out ?_)
  refine Aside0.mk ?_
  generalize (((w.setCell ⟨h, i * 3, none⟩ (.int .i64 (z : Int))).setCell ⟨h, i * 3 + 1, none⟩ (.int .i64 (b : Int))).setCell ⟨h, i * 3 + 2, none⟩ (.bool true)) = w1 at HC HK ⊢
  clear hfg1 h0 h1 hA hB hI zA zB zI f0 f1 f2
  have h0 := (blk_cell HC.out.obj 0).trans rfl
  have h1 := (blk_cell HC.out.obj 1).trans rfl
  have zB := (HC.out.links.cells (i := z) hz).2.1
  have fz := HC.out.links.frozen (z * 3 + 1)
  have HC2 := Aside0.mk (HC.out.setB z i)
  have HK2 := Aside0.mk (HK.out.set (p := ⟨h, z * 3 + 1, none⟩) (Or.inl (Or.inr rfl)) (.int .i64 (i : Int)))
  clear HC HK
  go_wp2_with (guard_target = wpList _ _ _ (Oper.mk _ (Op.nilCheck (Operand.tmp 32)) _ _ _ _ :: _) _ _; refine Aside0.out ?_)
  refine Aside0.mk ?_
  generalize (w1.setCell ⟨h, z * 3 + 1, none⟩ (.int .i64 (i : Int))) = w2 at HC2 HK2 ⊢
  clear h0 h1 zB fz
  have h0 := (blk_cell HC2.out.obj 0).trans rfl
  have h1 := (blk_cell HC2.out.obj 1).trans rfl
  have hfg1 := blk_frozen HC2.out.obj 1
  have bA := (HC2.out.links.cells (i := b) hb).1
  have fb := HC2.out.links.frozen (b * 3)
  have HC3 := Aside0.mk ((HC2.out.setA b i).setN (n + 1))
  have HK3 := Aside0.mk ((HK2.out.set (p := ⟨h, b * 3, none⟩) (Or.inl (Or.inr rfl)) (.int .i64 (i : Int))).set (p := ⟨g, 1, none⟩) (Or.inl (Or.inl rfl)) (.int .i64 ((n + 1 : Nat) : Int)))
  clear HC2 HK2
  go_wp2_with fail
  have hc := HC3.out
  have hk := HK3.out
  rw [show ((n + 1 : Nat) : Int) = (n : Int) + 1 from by omega] at hc hk
  refine bodyPost_end (results_none rfl _ _ _) rfl ⟨⟨_, rfl⟩, ?_, hk⟩
  have hf : putF f i z = Ring.setA (Ring.setB (upd f i ⟨z, b, true⟩) z i) b i := by
    have e1 := HFB.out
    subst e1; rfl
  rw [hf]
  exact hc
end Go.Proofs.Ytcncninjnickoaa.Chain
