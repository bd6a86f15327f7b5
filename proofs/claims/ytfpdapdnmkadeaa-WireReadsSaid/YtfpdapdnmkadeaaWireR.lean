/- What reads: short, long; wire.Told: what its call comes to. -/
import Derived.Test.YtfpdapdnmkadeaaWirePlain
namespace Go.Proofs.Ytfpdapdnmkadeaa.Wire
open Go.RowKit Go.Proofs.YtfpdapdnmkadeaaW.PrintWords Go.Proofs.YtfpdapdnmkadeaaW.PrintLast Go.Proofs.YtfpdapdnmkadeaaW.PrintMore
open Go.Proofs.Ytfpdapdnmkadeaa Go.Proofs.Ytfpdapdnmkadeaa.Vals Go.Proofs.Ytfpdapdnmkadeaa.Word Go.Proofs.Ytfpdapdnmkadeaa.Q
set_option linter.unusedVariables false
set_option linter.unusedSimpArgs false

theorem text_self {w : World} {g : Nat} {bs : List Int} {e : Int} (h : Rd w g bs e) (n : Nat) : Calls Try.prog 47 #[.pointer (some ⟨g, 0, none⟩), .int .i64 (n : Int), .int .i64 (n : Int)] w (TextPost w g (rawB bs e (n : Int)) (rawE bs e (n : Int)) (textS (rawO bs e (n : Int)) n n)) := by
  have h1 := text_ok h (Nat.le_refl n)
  have hl : (rawO bs e (n : Int)).length ≤ n := by rcases rawO_len bs e (n : Int) with h | h <;> omega
  rw [textB_eq _ _ _ hl, textE_eq _ _ _ hl] at h1
  exact h1
def SPost (w : World) (g k : Nat) (bs : List Int) (e : Int) (en : Ending) (w' : World) : Prop := en = .returned (.string (rdS k bs e)) ∧ Rd w' g (rdB k bs e) (rdE k bs e) ∧ Keeps (fun k => k = g) w w'
theorem num4_bd {l : List Int} (hl : Byte l) (h : l.length ≤ 4) : 0 ≤ num l ∧ num l < 4294967296 := by
  have h1 := num_lt l hl
  refine ⟨h1.1, Int.lt_of_lt_of_le h1.2 ?_⟩
  have : l.length = 0 ∨ l.length = 1 ∨ l.length = 2 ∨ l.length = 3 ∨ l.length = 4 := by omega
  rcases this with h | h | h | h | h <;> rw [h] <;> decide
theorem rawO_le (bs : List Int) (e : Int) (n : Nat) : (rawO bs e (n : Int)).length ≤ n := by rcases rawO_len bs e (n : Int) with h | h <;> omega
theorem rshort_calls {w : World} {g : Nat} {bs : List Int} {e : Int} (h : Rd w g bs e) (hby : Byte bs) : Calls Try.prog 30 #[.pointer (some ⟨g, 0, none⟩)] w (SPost w g 1 bs e) := by
  have HN := Aside0.mk (num_wide h hby (n := ((1 : Nat) : Int)) (by decide))
  have hbd := num4_bd (hby.rawO e ((1 : Nat) : Int)) (by have := rawO_le bs e 1; omega)
  have HBD := Aside0.mk hbd
  obtain ⟨n, hn⟩ := Int.eq_ofNat_of_zero_le hbd.1
  have HNN := Aside0.mk hn
  clear h hbd hn
  go_enter Try.func30, Try.ntmps30
  go_wp2_with fail
  refine HN.out.mono ?_
  rintro en w1 ⟨rfl, hr, hk⟩
  have HR := Aside0.mk hr
  have HK := Aside0.mk hk
  have hbd := HBD.out
  rw [HNN.out] at hbd ⊢
  clear hr hk HN
  go_wp2_with fail
  refine (text_self HR.out n).mono ?_
  rintro en w2 ⟨rfl, hr, hk⟩
  have HE := Aside0.mk (And.intro hr (HK.out.trans hk))
  clear hr hk
  go_wp2_with fail
  go_ret
  have hnt : (num (rawO bs e ((1 : Nat) : Int))).toNat = n := by rw [HNN.out]; rfl
  unfold SPost rdS rdB rdE
  simp only [hnt]
  exact ⟨rfl, HE.out.1, HE.out.2⟩
theorem rlong_calls {w : World} {g : Nat} {bs : List Int} {e : Int} (h : Rd w g bs e) (hby : Byte bs) : Calls Try.prog 28 #[.pointer (some ⟨g, 0, none⟩)] w (SPost w g 2 bs e) := by
  have HN := Aside0.mk (num_wide h hby (n := ((2 : Nat) : Int)) (by decide))
  have hbd := num4_bd (hby.rawO e ((2 : Nat) : Int)) (by have := rawO_le bs e 2; omega)
  have HBD := Aside0.mk hbd
  obtain ⟨n, hn⟩ := Int.eq_ofNat_of_zero_le hbd.1
  have HNN := Aside0.mk hn
  clear h hbd hn
  go_enter Try.func28, Try.ntmps28
  go_wp2_with fail
  refine HN.out.mono ?_
  rintro en w1 ⟨rfl, hr, hk⟩
  have HR := Aside0.mk hr
  have HK := Aside0.mk hk
  have hbd := HBD.out
  rw [HNN.out] at hbd ⊢
  clear hr hk HN
  go_wp2_with fail
  refine (text_self HR.out n).mono ?_
  rintro en w2 ⟨rfl, hr, hk⟩
  have HE := Aside0.mk (And.intro hr (HK.out.trans hk))
  clear hr hk
  go_wp2_with fail
  go_ret
  have hnt : (num (rawO bs e ((2 : Nat) : Int))).toNat = n := by rw [HNN.out]; rfl
  unfold SPost rdS rdB rdE
  simp only [hnt]
  exact ⟨rfl, HE.out.1, HE.out.2⟩

theorem below_less {w w' : World} {B N : Nat} (h : Below B w w') (hN : N ≤ B) : Below N w w' := ⟨h.os, h.tape, h.output, h.size, fun k hk => h.block k (by omega)⟩
/-- A reader stays where only what is above it turns. -/
theorem Rd.high {w w' : World} {g B : Nat} {bs : List Int} {e : Int} (h : Rd w g bs e) (hb : Below B w w') (hg : g < B) : Rd w' g bs e := by
  obtain ⟨v, h1, h2, h3⟩ := h.ex
  refine ⟨⟨v, (hb.block g hg).trans h1, ?_, h3⟩, h.le⟩
  exact IsL.keeps (w := w) (w' := w') (S := fun k => B ≤ k) (d := Kd.int .u8) (fun x cs h => h) h2 ⟨hb.os, hb.tape, hb.output, hb.size, fun k _ hn => hb.block k (by omega)⟩ (fun k hk h => by have := h3 k hk; omega)
theorem R_keeps {w w' : World} {B g : Nat} {v : Value} {xs : List S27} (h : Kd.R k27 27 w B (fun _ => True) v xs) (hk : Keeps (fun k => k = g) w w') (hg : g < B) : Kd.R k27 27 w' B (fun _ => True) v xs :=
  Kd.R_grown2 h rfl (row := some g) ⟨hk.os, hk.tape, hk.output, hk.size, fun k hk2 hn => hk.block k hk2 (fun e => hn (by rw [e]))⟩ (fun k hk2 h2 => by
    cases hk2
    have := Kd.R_base h g h2.symm
    omega)
theorem info_pair : (Try.prog.info? 27).map (fun i => (i.zero, i.size, i.bytes)) = some (some (.agg #[.string ⟨#[]⟩, .string ⟨#[]⟩]), 2, 32) := by kernel_rfl
theorem ans_nobyte {w : World} {T : Nat} {E : Int} {s : ByteArray} {v : Value} {t : TypeId} (h : w.heap[T]? = some (.cells #[.int .i64 E, .string s, v] t (0, 0))) (hv : ∀ x, v ≠ .int .u8 x) : NoByte w T :=
  ⟨_, _, _, h, fun i b => by
    match i with
    | 0 | 1 => simp
    | 2 => simpa using hv b
    | i + 3 => simp⟩
end Go.Proofs.Ytfpdapdnmkadeaa.Wire
