/- A key, read. -/
import Derived.Test.YtdekhhimjnockaaDoorTuText
namespace Go.Proofs.YtdekhhimjnockaaDoor.Tu
open Go.RowKit Go.Proofs.YtdekhhimjnockaaDoorW.PrintWords Go.Proofs.YtdekhhimjnockaaDoorW.PrintLast Go.Proofs.YtdekhhimjnockaaDoorW.PrintMore
open Go.Proofs.YtdekhhimjnockaaDoor Go.Proofs.YtdekhhimjnockaaDoor.Vals Go.Proofs.YtdekhhimjnockaaDoor.Word Go.Proofs.YtdekhhimjnockaaDoor.Q
set_option linter.unusedVariables false
set_option linter.unusedSimpArgs false

def intsU (l : List UInt8) : List Int := l.map fun c => (c.toNat : Int)
def readF : Nat → List S45 → List UInt8 → Option (List S45)
  | 0, _, _ => none
  | _ + 1, acc, [] => some acc
  | f + 1, acc, c :: r => if c = 1 ∧ 8 ≤ r.length then readF f (acc ++ [⟨true, num (intsU (r.take 8)), ⟨#[]⟩⟩]) (r.drop 8) else if c = 2 then (match textU [] r with | some (a, rest) => readF f (acc ++ [⟨false, 0, ⟨a.toArray⟩⟩]) rest | none => none) else none
def readU (s : ByteArray) : Option (List S45) := readF (s.size + 1) [] s.data.toList
def ReadPost (w : World) (o : Option (List S45)) (e : Ending) (w' : World) : Prop := ∃ v, e = .returned (.tuple #[v, .bool o.isSome]) ∧ k45.R 45 w' w.heap.size (fun _ => True) v (o.getD []) ∧ Below w.heap.size w w'
theorem textU_len : ∀ (l a : List UInt8) {x y : List UInt8}, textU a l = some (x, y) → y.length < l.length
  | [], a, x, y, h => by simp [textU] at h
  | [c], a, x, y, h => by simp [textU] at h
  | c :: d :: r, a, x, y, h => by
    rw [textU] at h
    split at h
    · split at h
      · injection h with h
        injection h with _ h
        rw [← h]
        simp
        omega
      · split at h
        · have := textU_len r _ h
          simp
          omega
        · cases h
    · have := textU_len (d :: r) _ h
      simp at this ⊢
      omega
  termination_by l => l.length
theorem conv_bys (W : World) (s : ByteArray) (hs : s.size ≤ 100000) : Bys (bytesOf s) (.slice (some ⟨W.heap.size, 0, none⟩) s.size (grownCap W s.size 0 5)) (Lib.bytesWorld W 5 s) := by
  have h := Kd.C_of_reads (enc := Value.int .u8) (d := (0 : Int)) (h1 := fun _ => rfl) (bytes_reads W 5 s (by omega))
  exact ⟨_, _, by rw [bytesOf_length], by rw [bytesOf_length]; exact grownCap_ge _ _ _ _, by rw [bytesOf_length]; exact h⟩
theorem conv_ext (W : World) (s : ByteArray) (h : 8 ≤ s.size) : Bys (intsU (s.data.toList.take 8)) (.slice (some ⟨W.heap.size, 0, none⟩) 8 (grownCap W 8 0 5)) (Lib.bytesWorld W 5 (s.extract 0 8)) ∧ Below W.heap.size W (Lib.bytesWorld W 5 (s.extract 0 8)) := by
  have e : (s.extract 0 8).data.toList = s.data.toList.take 8 := by simp [ByteArray.data_extract, List.extract_eq_take_drop]
  have h8 : (s.extract 0 8).size = 8 := by rw [← data_length, e, List.length_take, data_length]; omega
  have hb := conv_bys W (s.extract 0 8) (by omega)
  rw [h8] at hb
  unfold bytesOf at hb
  rw [e] at hb
  exact ⟨hb, bytes_below (Below.refl _ _) (Nat.le_refl _) _ _⟩
theorem info_part45 : (Tryd.prog.info? 45).map (fun i => (i.zero, i.size, i.bytes)) = some (some (.agg #[.bool false, .int .u64 0, .string ⟨#[]⟩]), 3, 32) := by kernel_rfl
theorem intsU_byte (l : List UInt8) : Byte (intsU l) := by
  intro c hc
  obtain ⟨u, _, rfl⟩ := List.mem_map.1 hc
  have := u.toNat_lt
  exact ⟨by omega, by omega⟩
set_option maxHeartbeats 8000000 in
set_option maxRecDepth 100000 in
theorem read_calls (s : ByteArray) (hs : s.size ≤ 100000) (w : World) : Calls Tryd.prog 8 #[.string s] w (ReadPost w (readU s)) := by
  have HS := Aside0.mk hs
  obtain ⟨R, hR⟩ : ∃ R, readU s = R := ⟨_, rfl⟩
  rw [hR]
  have HRR := Aside0.mk hR
  clear hs hR
  go_enter Tryd.func8, Tryd.ntmps8
  go_wp2_with fail
  go_loopg [0, 4] (s.size + 1) (fun kq v0 v4 wx => ∃ (s1 : ByteArray) (acc : List S45), v0 = .string s1 ∧ Aside0 (s1.size + 1 ≤ kq ∧ kq ≤ s.size + 1 ∧ acc.length + s1.size ≤ s.size) ∧ Aside0 (k45.R 45 wx w.heap.size (fun _ => True) v4 acc) ∧ Aside0 (Below w.heap.size w wx) ∧ Aside0 (readF kq acc s1.data.toList = R))
  case atStart => exact ⟨s, [], rfl, ⟨Nat.le_refl _, Nat.le_refl _, by simp⟩, ⟨Kd.R_nil _ _ _ _ _⟩, ⟨Below.refl _ _⟩, HRR⟩
  case round =>
    obtain ⟨s1, acc, rfl, HI, HA, HW, HU⟩ := hrel
    obtain ⟨kk, hkk⟩ : ∃ kk, gk = kk + 1 := ⟨gk - 1, by have := HI.out.1; omega⟩
    subst hkk
    have hd := data_length s1
    cases hl : s1.data.toList with
    | nil =>
      have he : s1.toList = [] := by rw [Lib.toList_data]; exact hl
      have HU2 := Aside0.mk (show some acc = R by rw [← HU.out, hl]; rfl)
      clear hl hd
      go_wp2_with fail
      exact bodyPost_ret (v := .tuple #[u4, .bool true]) (by simp [results, Tryd.results8, go_sem]) rfl ⟨u4, by rw [← HU2.out]; rfl, by rw [← HU2.out]; exact HA.out, HW.out⟩
    | cons c r =>
      have he : s1.toList.isEmpty = false := by rw [Lib.toList_data, hl]; rfl
      have he2 : s1.toList ≠ [] := by rw [Lib.toList_data, hl]; simp
      rw [hl] at hd
      have hd2 : s1.size = r.length + 1 := by rw [← hd]; simp
      have q0 : (0 : Int) < (s1.size : Int) := by omega
      have q1 : (1 : Int) ≤ (s1.size : Int) := by omega
      have x0 : s1[0]'(by omega) = c := by
        have h2 : s1.data.toList[0]'(by rw [hl]; simp) = c := by simp only [hl]; rfl
        exact h2
      have HEX := Aside0.mk (show (s1.extract 1 s1.size).data.toList = r from by rw [Lib.extract_to_end, hl]; rfl)
      have HU2 := Aside0.mk (show readF (kk + 1) acc (c :: r) = R by rw [← HU.out, hl])
      have HD := Aside0.mk hd2
      clear hl hd HU
      go_upto_region 6 with fail
      rw [show r.length + 1 = s1.size from HD.out.symm]
      have HSZ := Aside0.mk (show (s1.extract 1 s1.size).size = r.length from by rw [← data_length, HEX.out])
      generalize s1.extract 1 s1.size = s2 at HEX HSZ ⊢
      clear he he2 hd2 q0 q1 x0
      by_cases h1 : c = 1 ∧ 8 ≤ r.length
      · obtain ⟨rfl, h8⟩ := h1
        have HU3 := Aside0.mk ((if_pos ⟨rfl, h8⟩).symm.trans HU2.out)
        clear HU2
        have hz := HSZ.out
        have t1 : decide ((8 : Int) ≤ (s2.size : Int)) = true := decide_eq_true (by omega)
        have t2 : decide (8 ≤ s2.size) = true := decide_eq_true (by omega)
        have p8 : (8 : Int) ≤ (s2.size : Int) := by omega
        have HH8 := Aside0.mk h8
        clear hz h8
        have kb := fun W => print_bytes (P := Tryd.prog) 9 55 5 Tryd.underlying9 Tryd.underlying55 Tryd.underlying5 (s2.extract 0 8) W
        go_wp2_with fail
        rw [show min 8 s2.size = 8 from by have := HSZ.out; have := HH8.out; omega]
        have HCB := Aside0.mk (conv_ext wr s2 (by have := HSZ.out; have := HH8.out; omega))
        rw [HEX.out] at HCB
        clear kb
        generalize Lib.bytesWorld wr 5 (s2.extract 0 8) = w1 at HCB ⊢
        generalize grownCap wr 8 0 5 = cc at HCB ⊢
        have HW1 := Aside0.mk (below_step HW.out HCB.out.2)
        have HA1 := Aside0.mk (Kd.R_below HA.out HCB.out.2)
        have HBY := Aside0.mk (intsU_byte (r.take 8))
        have HIL := Aside0.mk (show (intsU (r.take 8)).length = 8 from by have := HH8.out; unfold intsU; rw [List.length_map, List.length_take]; omega)
        have HNB := Aside0.mk (show num (rawO (intsU (r.take 8)) 0 8) = num (intsU (r.take 8)) from by
          have h := HIL.out
          unfold rawO
          rw [if_neg (by simp), if_neg (by decide), if_neg (by omega), show (8 : Int).toNat = 8 from rfl, List.take_of_length_le (by omega)])
        generalize intsU (r.take 8) = bs at HCB HBY HIL HNB HU3 ⊢
        refine (open_calls HCB.out.1 (by rw [HIL.out]; decide)).mono ?_
        rintro en w2 ⟨g, rfl, hrd, hb, hg⟩
        have HRD := Aside0.mk hrd
        have HG := Aside0.mk hg
        have HB2 := Aside0.mk hb
        clear hrd hb hg HA HW HCB
        go_wp2_with fail
        refine (num_wide (n := 8) HRD.out HBY.out (by unfold wide; omega)).mono ?_
        rintro en w3 ⟨rfl, _, hk⟩
        rw [HNB.out]
        have HB3 := Aside0.mk (Keeps.below_then HB2.out (Nat.le_refl _) hk (fun i hi => by have h1 : i = g := hi; have := HG.out; omega))
        have HA3 := Aside0.mk (Kd.R_below HA1.out HB3.out)
        have HW3 := Aside0.mk (below_step HW1.out HB3.out)
        clear hk HB2 HB3 HA1 HW1 HRD HNB HBY HIL HG
        go_wp2_with fail
        refine (tuple_Num.calls (num bs) true (num bs) ⟨#[]⟩ w3 rfl).mono ?_
        rintro en w4 ⟨rfl, hb⟩
        have HA4 := Aside0.mk (Kd.R_below HA3.out hb)
        have HW4 := Aside0.mk (below_step HW3.out hb)
        have HLO := Aside0.mk (show (acc.length + 1) * 32 ≤ 140737488355328 from by have := HI.out; have := HS.out; omega)
        clear hb HA3 HW3
        go_upto_region 8 with (at_builtin; refine Kd.R_append k45 (w0 := w) w.heap.size rfl (.tmp 23) (.tmp 30) 23 45 (.agg #[.bool false, .int .u64 0, .string ⟨#[]⟩]) 32 rfl Tryd.underlying23 info_part45 rfl (by decide) (by omega) u4 acc ⟨true, num bs, ⟨#[]⟩⟩ [.bool true, .int .u64 (num bs), .string ⟨#[]⟩] (fun _ => True) (fun _ => False) rfl rfl ?aP (fun _ hk => hk.elim) (fun _ _ => trivial) HA4.out HW4.out HW4.out.size HLO.out ?_; (case aP => exact k45_mkM _ _ _ _); intro v1 w5 ho hb hg hat; have HA5 := Aside0.mk ho; have HW5 := Aside0.mk hb; clear ho hb hg hat HA4 HW4)
        go_wp2_with fail
        have HX8 := Aside0.mk (show (s2.extract 8 s2.size).data.toList = r.drop 8 from by rw [Lib.extract_to_end, HEX.out])
        have HXS := Aside0.mk (show (s2.extract 8 s2.size).size = r.length - 8 from by rw [← data_length, HX8.out, List.length_drop])
        go_roundg kk
        case measure => omega
        case rel => exact ⟨s2.extract 8 s2.size, acc ++ [⟨true, num bs, ⟨#[]⟩⟩], rfl, ⟨by have := HI.out; have := HD.out; have := HXS.out; omega, by have := HI.out; omega, by have := HI.out; have := HD.out; have := HXS.out; have := HH8.out; rw [List.length_append, List.length_singleton]; omega⟩, HA5, HW5, ⟨by rw [HX8.out]; exact HU3.out⟩⟩
      · have HU3 := Aside0.mk ((if_neg h1).symm.trans HU2.out)
        clear HU2
        by_cases hc1 : c = 1
        · subst hc1
          have HU4 := Aside0.mk ((if_neg (by decide)).symm.trans HU3.out)
          have hz := HSZ.out
          have h8 : ¬ 8 ≤ r.length := fun h => h1 ⟨rfl, h⟩
          have t1 : decide ((8 : Int) ≤ (s2.size : Int)) = false := decide_eq_false (by omega)
          have t2 : decide (8 ≤ s2.size) = false := decide_eq_false (by omega)
          clear hz h8 h1 HU3
          go_wp2_with fail
          exact bodyPost_ret (v := .tuple #[.slice none 0 0, .bool false]) (by simp [results, Tryd.results8, go_sem]) rfl ⟨.slice none 0 0, by rw [← HU4.out]; rfl, by rw [← HU4.out]; exact Kd.R_nil _ _ _ _ _, HW.out⟩
        · have n1 : ((c.toNat : Int) == 1) = false := by simpa using fun h => hc1 (UInt8.toNat_inj.1 (by have : (1 : UInt8).toNat = 1 := rfl; omega))
          by_cases hc2 : c = 2
          · subst hc2
            have HU4 := Aside0.mk ((if_pos rfl).symm.trans HU3.out)
            have HTC := Aside0.mk (text_calls s2 (by have := HSZ.out; have := HI.out; have := HD.out; have := HS.out; omega) wr)
            clear h1 HU3 hc1
            go_wp2_with fail
            refine HTC.out.mono ?_
            rintro en w1 ⟨rfl, hb⟩
            rw [HEX.out]
            have HA1 := Aside0.mk (Kd.R_below HA.out hb)
            have HW1 := Aside0.mk (below_step HW.out hb)
            clear hb HTC HA HW
            cases hx : textU [] r with
            | none =>
              have HU5 := Aside0.mk (show none = R from by rw [← HU4.out, hx])
              clear HU4 hx
              unfold textV
              go_wp2_with fail
              exact bodyPost_ret (v := .tuple #[.slice none 0 0, .bool false]) (by simp [results, Tryd.results8, go_sem]) rfl ⟨.slice none 0 0, by rw [← HU5.out]; rfl, by rw [← HU5.out]; exact Kd.R_nil _ _ _ _ _, HW1.out⟩
            | some xy =>
              obtain ⟨x, y⟩ := xy
              have HU5 := Aside0.mk (show readF kk (acc ++ [⟨false, 0, ⟨x.toArray⟩⟩]) y = R from by rw [← HU4.out, hx])
              have HYL := Aside0.mk (textU_len _ _ hx)
              clear HU4 hx
              unfold textV
              go_wp2_with fail
              refine (tuple_Text.calls ⟨x.toArray⟩ false 0 ⟨x.toArray⟩ w1 rfl).mono ?_
              rintro en w4 ⟨rfl, hb⟩
              have HA4 := Aside0.mk (Kd.R_below HA1.out hb)
              have HW4 := Aside0.mk (below_step HW1.out hb)
              have HLO := Aside0.mk (show (acc.length + 1) * 32 ≤ 140737488355328 from by have := HI.out; have := HS.out; omega)
              clear hb HA1 HW1
              go_wp2_with (at_builtin; refine Kd.R_append k45 (w0 := w) w.heap.size rfl (.tmp 45) (.tmp 48) 23 45 (.agg #[.bool false, .int .u64 0, .string ⟨#[]⟩]) 32 rfl Tryd.underlying23 info_part45 rfl (by decide) (by omega) u4 acc ⟨false, 0, ⟨x.toArray⟩⟩ [.bool false, .int .u64 0, .string ⟨x.toArray⟩] (fun _ => True) (fun _ => False) rfl rfl ?bP (fun _ hk => hk.elim) (fun _ _ => trivial) HA4.out HW4.out HW4.out.size HLO.out ?_; (case bP => exact k45_mkM _ _ _ _); intro v1 w5 ho hb hg hat; have HA5 := Aside0.mk ho; have HW5 := Aside0.mk hb; clear ho hb hg hat HA4 HW4)
              go_roundg kk
              case measure => omega
              case rel =>
                have hys : (⟨y.toArray⟩ : ByteArray).size = y.length := by simp [ByteArray.size]
                exact ⟨⟨y.toArray⟩, acc ++ [⟨false, 0, ⟨x.toArray⟩⟩], rfl, ⟨by have := HI.out; have := HD.out; have := HYL.out; omega, by have := HI.out; omega, by have := HI.out; have := HD.out; have := HYL.out; rw [List.length_append, List.length_singleton]; omega⟩, HA5, HW5, HU5⟩
          · have HU4 := Aside0.mk ((if_neg hc2).symm.trans HU3.out)
            have n2 : ((c.toNat : Int) == 2) = false := by simpa using fun h => hc2 (UInt8.toNat_inj.1 (by have : (2 : UInt8).toNat = 2 := rfl; omega))
            clear h1 HU3 hc1 hc2
            go_wp2_with fail
            exact bodyPost_ret (v := .tuple #[.slice none 0 0, .bool false]) (by simp [results, Tryd.results8, go_sem]) rfl ⟨.slice none 0 0, by rw [← HU4.out]; rfl, by rw [← HU4.out]; exact Kd.R_nil _ _ _ _ _, HW.out⟩
end Go.Proofs.YtdekhhimjnockaaDoor.Tu
