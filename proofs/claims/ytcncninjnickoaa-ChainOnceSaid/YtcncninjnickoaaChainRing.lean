/- A row kept by links, in plain lists: no memory. -/
namespace Go.Proofs.Ytcncninjnickoaa.Ring

structure Lk where
  ahead : Nat
  behind : Nat
  inn : Bool

abbrev Links := Nat → Lk
def upd (f : Links) (i : Nat) (l : Lk) : Links := fun j => if j = i then l else f j
def setA (f : Links) (i x : Nat) : Links := upd f i { f i with ahead := x }
def setB (f : Links) (i x : Nat) : Links := upd f i { f i with behind := x }

def outF (f : Links) (i : Nat) : Links := upd (setA (setB f (f i).ahead (f i).behind) (f i).behind (f i).ahead) i ⟨0, 0, false⟩
def putF (f : Links) (i z : Nat) : Links := setA (setB (upd f i ⟨z, (f z).behind, true⟩) z i) (f z).behind i

def A (f : Links) (i : Nat) : Nat := (f i).ahead
def B (f : Links) (i : Nat) : Nat := (f i).behind

structure Ring (f : Links) (N : Nat) (row : List Nat) : Prop where
  nodup : row.Nodup
  lt : ∀ x ∈ row, x < N
  inn : ∀ i, i < N → ((f i).inn = true ↔ i ∈ row)
  next : (N :: row).map (B f) = row ++ [N]
  prev : (row ++ [N]).map (A f) = N :: row

theorem map_off {g g' : Nat → Nat} {l : List Nat} (h : ∀ x ∈ l, g' x = g x) : l.map g' = l.map g := List.map_congr_left h

theorem Ring.le {f : Links} {N : Nat} {row : List Nat} (h : Ring f N row) {i : Nat} (hi : i ∈ N :: row) : (f i).behind ≤ N := by
  have : B f i ∈ row ++ [N] := by rw [← h.next]; exact List.mem_map_of_mem hi
  rcases List.mem_append.1 this with h1 | h1
  · exact Nat.le_of_lt (h.lt _ h1)
  · exact Nat.le_of_eq (List.mem_singleton.1 h1)
theorem Ring.le' {f : Links} {N : Nat} {row : List Nat} (h : Ring f N row) {i : Nat} (hi : i ∈ row ++ [N]) : (f i).ahead ≤ N := by
  have : A f i ∈ N :: row := by rw [← h.prev]; exact List.mem_map_of_mem hi
  rcases List.mem_cons.1 this with h1 | h1
  · exact Nat.le_of_eq h1
  · exact Nat.le_of_lt (h.lt _ h1)

theorem split_next {f : Links} {N : Nat} {p q : List Nat} {i : Nat} (h : (N :: (p ++ i :: q)).map (B f) = (p ++ i :: q) ++ [N]) : (N :: p).map (B f) = p ++ [i] ∧ (i :: q).map (B f) = q ++ [N] := by
  have e : (N :: p).map (B f) ++ (i :: q).map (B f) = (p ++ [i]) ++ (q ++ [N]) := by
    rw [← List.map_append]
    simpa using h
  exact List.append_inj e (by simp)
theorem split_prev {f : Links} {N : Nat} {p q : List Nat} {i : Nat} (h : ((p ++ i :: q) ++ [N]).map (A f) = N :: (p ++ i :: q)) : (p ++ [i]).map (A f) = N :: p ∧ (q ++ [N]).map (A f) = i :: q := by
  have e : (p ++ [i]).map (A f) ++ (q ++ [N]).map (A f) = (N :: p) ++ (i :: q) := by
    rw [← List.map_append]
    simpa using h
  exact List.append_inj e (by simp)

theorem out_ring {f : Links} {N : Nat} {p q : List Nat} {i : Nat} (h : Ring f N (p ++ i :: q)) : Ring (outF f i) N (p ++ q) := by
  obtain ⟨hn, hlt, hin, hx, hp⟩ := h
  obtain ⟨n1, n2⟩ := split_next hx
  obtain ⟨p1, p2⟩ := split_prev hp
  have hiN : i < N := hlt i (by simp)
  have hd : p.Nodup ∧ (i :: q).Nodup ∧ ∀ x ∈ p, ∀ y ∈ i :: q, x ≠ y := List.nodup_append.1 hn
  obtain ⟨hpn, hqn, hpq⟩ := hd
  have hiq : i ∉ q := (List.nodup_cons.1 hqn).1
  have hip : i ∉ p := fun hm => hpq i hm i (by simp) rfl
  -- the one ahead: last of N :: p; the one behind: first of q ++ [N]
  obtain ⟨u, a, hu⟩ : ∃ u a, N :: p = u ++ [a] := ⟨(N :: p).dropLast, (N :: p).getLast (by simp), (List.dropLast_concat_getLast (by simp)).symm⟩
  obtain ⟨b, v, hv⟩ : ∃ b v, q ++ [N] = b :: v := by cases q <;> exact ⟨_, _, rfl⟩
  have hb : B f i = b := by
    have : B f i :: q.map (B f) = b :: v := by rw [← hv, ← n2]; rfl
    injection this
  have hqv : q.map (B f) = v := by
    have : B f i :: q.map (B f) = b :: v := by rw [← hv, ← n2]; rfl
    injection this
  have hui : u.map (B f) = p := by
    rw [hu, List.map_append] at n1
    exact (List.append_inj' n1 (by simp)).1
  have ha : A f i = a := by
    have e : p.map (A f) ++ [A f i] = u ++ [a] := by rw [← hu, ← p1]; simp
    have := (List.append_inj' e (by simp)).2
    simpa using this
  have hpa : p.map (A f) = u := by
    have e : p.map (A f) ++ [A f i] = u ++ [a] := by rw [← hu, ← p1]; simp
    exact (List.append_inj' e (by simp)).1
  have hva : v.map (A f) = q := by
    rw [hv, List.map_cons] at p2
    injection p2
  have haNp : a ∈ N :: p := by rw [hu]; simp
  have hbqN : b ∈ q ++ [N] := by rw [hv]; simp
  have hai : a ≠ i := by
    rcases List.mem_cons.1 haNp with h1 | h1
    · omega
    · exact fun e => hip (e ▸ h1)
  have hbi : b ≠ i := by
    rcases List.mem_append.1 hbqN with h1 | h1
    · exact fun e => hiq (e ▸ h1)
    · have := List.mem_singleton.1 h1; omega
  have haq : a ∉ q := by
    rcases List.mem_cons.1 haNp with h1 | h1
    · intro hm
      have := hlt a (by simp [hm])
      omega
    · intro hm
      exact hpq a h1 a (by simp [hm]) rfl
  have hbp : b ∉ p := by
    rcases List.mem_append.1 hbqN with h1 | h1
    · intro hm
      exact hpq b hm b (by simp [h1]) rfl
    · have := List.mem_singleton.1 h1
      intro hm
      have := hlt b (by simp [hm])
      omega
  have hau : a ∉ u := by
    intro hm
    have hnn : (N :: p).Nodup := List.nodup_cons.2 ⟨fun h => by have := hlt N (by simp [h]); omega, hpn⟩
    rw [hu] at hnn
    exact (List.nodup_append.1 hnn).2.2 a hm a (by simp) rfl
  have hbv : b ∉ v := by
    intro hm
    have hnn : (q ++ [N]).Nodup := List.nodup_append.2 ⟨(List.nodup_cons.1 hqn).2, by simp, fun x hx y hy => by
      rw [List.mem_singleton.1 hy]
      have := hlt x (by simp [hx])
      omega⟩
    rw [hv] at hnn
    exact (List.nodup_cons.1 hnn).1 hm
  have hB : ∀ x, x ≠ i → B (outF f i) x = if x = a then b else B f x := by
    intro x hx
    unfold outF
    rw [show (f i).ahead = a from ha, show (f i).behind = b from hb]
    unfold B upd setA setB upd
    by_cases e1 : x = a
    · subst e1
      by_cases e2 : x = b
      · subst e2; simp [hx]
      · simp [hx, e2]
    · by_cases e2 : x = b
      · subst e2; simp [hx, e1]
      · simp [hx, e1, e2]
  have hA : ∀ x, x ≠ i → A (outF f i) x = if x = b then a else A f x := by
    intro x hx
    unfold outF
    rw [show (f i).ahead = a from ha, show (f i).behind = b from hb]
    unfold A upd setA setB upd
    by_cases e1 : x = b
    · subst e1; simp [hx]
    · by_cases e2 : x = a
      · subst e2; simp [hx, e1]
      · simp [hx, e1, e2]
  refine ⟨?_, ?_, ?_, ?_, ?_⟩
  · exact List.nodup_append.2 ⟨hpn, (List.nodup_cons.1 hqn).2, fun x hx y hy => hpq x hx y (by simp [hy])⟩
  · intro x hx
    refine hlt x ?_
    rcases List.mem_append.1 hx with h1 | h1 <;> simp [h1]
  · intro j hj
    by_cases e : j = i
    · subst e
      have : (outF f j j).inn = false := by simp [outF, upd]
      rw [this]
      simp [hip, hiq]
    · have : (outF f i j).inn = (f j).inn := by
        unfold outF upd setA setB upd
        simp only [e, if_false]
        by_cases e1 : j = (f i).behind
        · subst e1
          by_cases e2 : (f i).behind = (f i).ahead <;> simp [e2]
        · by_cases e2 : j = (f i).ahead
          · subst e2; simp [e1]
          · simp [e1, e2]
      rw [this, hin j hj]
      simp [e]
  · have hNp : ∀ x ∈ N :: p, x ≠ i := fun x hxx e => by
      subst e
      rcases List.mem_cons.1 hxx with h1 | h1
      · omega
      · exact hip h1
    have e1 : (N :: p).map (B (outF f i)) = p ++ [b] := by
      rw [hu, List.map_append, map_off (g := B f) (fun x hx => ?_), hui]
      · simp only [List.map_cons, List.map_nil]
        rw [hB a hai, if_pos rfl]
      · rw [hB x (hNp x (by rw [hu]; simp [hx])), if_neg (fun (e : x = a) => hau (e ▸ hx))]
    have e2 : q.map (B (outF f i)) = v := by
      rw [map_off (g := B f) (fun x hx => ?_), hqv]
      rw [hB x (fun (e : x = i) => hiq (e ▸ hx)), if_neg (fun (e : x = a) => haq (e ▸ hx))]
    rw [show N :: (p ++ q) = (N :: p) ++ q from rfl, List.map_append, e1, e2]
    rw [List.append_assoc, List.append_assoc, hv]
    rfl
  · have e1 : p.map (A (outF f i)) = u := by
      rw [map_off (g := A f) (fun x hx => ?_), hpa]
      rw [hA x (fun (e : x = i) => hip (e ▸ hx)), if_neg (fun (e : x = b) => hbp (e ▸ hx))]
    have e2 : (q ++ [N]).map (A (outF f i)) = a :: q := by
      rw [hv, List.map_cons, hA b hbi, if_pos rfl, map_off (g := A f) (fun x hx => ?_), hva]
      have hxi : x ≠ i := by
        have : x ∈ q ++ [N] := by rw [hv]; simp [hx]
        rcases List.mem_append.1 this with h1 | h1
        · exact fun e => hiq (e ▸ h1)
        · have := List.mem_singleton.1 h1; omega
      rw [hA x hxi, if_neg (fun (e : x = b) => hbv (e ▸ hx))]
    rw [List.append_assoc, List.map_append, e1, e2]
    rw [show N :: (p ++ q) = (N :: p) ++ q from rfl, hu]
    simp

theorem front_ring {f : Links} {N : Nat} {row : List Nat} {i : Nat} (h : Ring f N row) (hi : i < N) (hr : i ∉ row) : Ring (putF f i N) N (i :: row) := by
  obtain ⟨hn, hlt, hin, hx, hp⟩ := h
  obtain ⟨b, v, hv⟩ : ∃ b v, row ++ [N] = b :: v := by cases row <;> exact ⟨_, _, rfl⟩
  have hb : B f N = b := by
    have : B f N :: row.map (B f) = b :: v := by rw [← hv, ← hx]; rfl
    injection this
  have hva : v.map (A f) = row := by
    rw [hv, List.map_cons] at hp
    injection hp
  have hbi : b ≠ i := by
    have : b ∈ row ++ [N] := by rw [hv]; simp
    rcases List.mem_append.1 this with h1 | h1
    · exact fun e => hr (e ▸ h1)
    · have := List.mem_singleton.1 h1; omega
  have hNr : N ∉ row := fun hm => by have := hlt N hm; omega
  have hbv : b ∉ v := by
    intro hm
    have hnn : (row ++ [N]).Nodup := List.nodup_append.2 ⟨hn, by simp, fun x hx y hy => by
      rw [List.mem_singleton.1 hy]
      have := hlt x hx
      omega⟩
    rw [hv] at hnn
    exact (List.nodup_cons.1 hnn).1 hm
  have hB : ∀ x, B (putF f i N) x = if x = N then i else if x = i then b else B f x := by
    intro x
    unfold putF
    rw [show (f N).behind = b from hb]
    unfold B upd setA setB upd
    by_cases e1 : x = N
    · subst e1
      by_cases e2 : x = b
      · subst e2; simp
      · simp [e2]
    · by_cases e2 : x = i
      · subst e2
        simp [e1, Ne.symm hbi]
      · by_cases e3 : x = b
        · subst e3; simp [e1, e2]
        · simp [e1, e2, e3]
  have hA : ∀ x, A (putF f i N) x = if x = b then i else if x = i then N else A f x := by
    intro x
    unfold putF
    rw [show (f N).behind = b from hb]
    unfold A upd setA setB upd
    have hNi : N ≠ i := by omega
    by_cases e1 : x = b
    · subst e1; simp
    · by_cases e2 : x = i
      · subst e2; simp [e1, Ne.symm hNi]
      · by_cases e3 : x = N
        · subst e3; simp [e1, e2]
        · simp [e1, e2, e3]
  refine ⟨List.nodup_cons.2 ⟨hr, hn⟩, fun x hx => ?_, fun j hj => ?_, ?_, ?_⟩
  · rcases List.mem_cons.1 hx with h1 | h1
    · omega
    · exact hlt x h1
  · have : (putF f i N j).inn = if j = i then true else (f j).inn := by
      unfold putF
      rw [show (f N).behind = b from hb]
      unfold upd setA setB upd
      have hjN : j ≠ N := by omega
      by_cases e2 : j = i
      · subst e2; simp [hjN, Ne.symm hbi]
      · by_cases e3 : j = b
        · subst e3; simp [e2, hjN]
        · simp [e2, e3, hjN]
    rw [this]
    by_cases e : j = i
    · simp [e]
    · simp [e, hin j hj]
  · rw [List.map_cons, List.map_cons, hB N, if_pos rfl, hB i, if_neg (by omega), if_pos rfl, map_off (g := B f) (fun x hx => ?_)]
    · have : B f N :: row.map (B f) = row ++ [N] := hx
      rw [hb] at this
      rw [this]
      rfl
    · rw [hB x, if_neg (fun (e : x = N) => hNr (e ▸ hx)), if_neg (fun (e : x = i) => hr (e ▸ hx))]
  · rw [List.cons_append, List.map_cons, hA i, if_neg (Ne.symm hbi), if_pos rfl, hv, List.map_cons, hA b, if_pos rfl, map_off (g := A f) (fun x hx => ?_), hva]
    have hxi : x ≠ i := by
      have : x ∈ row ++ [N] := by rw [hv]; simp [hx]
      rcases List.mem_append.1 this with h1 | h1
      · exact fun e => hr (e ▸ h1)
      · have := List.mem_singleton.1 h1; omega
    rw [hA x, if_neg (fun (e : x = b) => hbv (e ▸ hx)), if_neg hxi]

theorem back_ring {f : Links} {N : Nat} {row : List Nat} {i : Nat} (h : Ring f N row) (hi : i < N) (hr : i ∉ row) : Ring (putF f i (f N).ahead) N (row ++ [i]) := by
  obtain ⟨hn, hlt, hin, hx, hp⟩ := h
  obtain ⟨u, a, hu⟩ : ∃ u a, N :: row = u ++ [a] := ⟨(N :: row).dropLast, (N :: row).getLast (by simp), (List.dropLast_concat_getLast (by simp)).symm⟩
  have hui : u.map (B f) = row ∧ B f a = N := by
    rw [hu, List.map_append] at hx
    obtain ⟨h1, h2⟩ := List.append_inj' hx (by simp)
    exact ⟨h1, by simpa using h2⟩
  have ha : A f N = a ∧ row.map (A f) = u := by
    rw [List.map_append, hu] at hp
    obtain ⟨h1, h2⟩ := List.append_inj' hp (by simp)
    exact ⟨by simpa using h2, h1⟩
  have haN : a ∈ N :: row := by rw [hu]; simp
  have hai : a ≠ i := by
    rcases List.mem_cons.1 haN with h1 | h1
    · omega
    · exact fun e => hr (e ▸ h1)
  have hNr : N ∉ row := fun hm => by have := hlt N hm; omega
  have hau : a ∉ u := by
    intro hm
    have hnn : (N :: row).Nodup := List.nodup_cons.2 ⟨hNr, hn⟩
    rw [hu] at hnn
    exact (List.nodup_append.1 hnn).2.2 a hm a (by simp) rfl
  have hNi : N ≠ i := by omega
  have hB : ∀ x, B (putF f i (f N).ahead) x = if x = a then i else if x = i then N else B f x := by
    intro x
    unfold putF
    rw [show (f N).ahead = a from ha.1, show (f a).behind = N from hui.2]
    unfold B upd setA setB upd
    by_cases e1 : x = a
    · subst e1
      by_cases e2 : x = N
      · subst e2; simp
      · simp [e2]
    · by_cases e2 : x = i
      · subst e2; simp [e1, Ne.symm hNi]
      · by_cases e3 : x = N
        · subst e3; simp [e1, e2]
        · simp [e1, e2, e3]
  have hA : ∀ x, A (putF f i (f N).ahead) x = if x = N then i else if x = i then a else A f x := by
    intro x
    unfold putF
    rw [show (f N).ahead = a from ha.1, show (f a).behind = N from hui.2]
    unfold A upd setA setB upd
    by_cases e1 : x = N
    · subst e1; simp
    · by_cases e2 : x = i
      · subst e2; simp [e1, Ne.symm hai]
      · by_cases e3 : x = a
        · subst e3; simp [e1, e2]
        · simp [e1, e2, e3]
  refine ⟨List.nodup_append.2 ⟨hn, by simp, fun x hx y hy => by rw [List.mem_singleton.1 hy]; exact fun e => hr (e ▸ hx)⟩, fun x hx => ?_, fun j hj => ?_, ?_, ?_⟩
  · rcases List.mem_append.1 hx with h1 | h1
    · exact hlt x h1
    · have := List.mem_singleton.1 h1; omega
  · have : (putF f i (f N).ahead j).inn = if j = i then true else (f j).inn := by
      unfold putF
      rw [show (f N).ahead = a from ha.1, show (f a).behind = N from hui.2]
      unfold upd setA setB upd
      have hjN : j ≠ N := by omega
      by_cases e2 : j = i
      · subst e2; simp [hjN, Ne.symm hai]
      · by_cases e3 : j = a
        · subst e3; simp [e2, hjN]
        · simp [e2, e3, hjN]
    rw [this]
    by_cases e : j = i
    · simp [e]
    · simp [e, hin j hj]
  · rw [show N :: (row ++ [i]) = (N :: row) ++ [i] from rfl, hu, List.map_append, List.map_append, map_off (g := B f) (fun x hx => ?_), hui.1]
    · simp only [List.map_cons, List.map_nil]
      rw [hB a, if_pos rfl, hB i, if_neg (Ne.symm hai), if_pos rfl]
    · have hxi : x ≠ i := by
        have : x ∈ N :: row := by rw [hu]; simp [hx]
        rcases List.mem_cons.1 this with h1 | h1
        · omega
        · exact fun e => hr (e ▸ h1)
      rw [hB x, if_neg (fun (e : x = a) => hau (e ▸ hx)), if_neg hxi]
  · rw [List.map_append, List.map_append, map_off (g := A f) (fun x hx => ?_), ha.2]
    · simp only [List.map_cons, List.map_nil]
      rw [hA i, if_neg (by omega), if_pos rfl, hA N, if_pos rfl, ← hu]
      rfl
    · rw [hA x, if_neg (fun (e : x = N) => hNr (e ▸ hx)), if_neg (fun (e : x = i) => hr (e ▸ hx))]

theorem new_ring {f : Links} {N : Nat} (hN : f N = ⟨N, N, false⟩) (h : ∀ i, i < N → (f i).inn = false) : Ring f N [] :=
  ⟨by simp, by simp, fun i hi => by simp [h i hi], by simp [B, hN], by simp [A, hN]⟩
end Go.Proofs.Ytcncninjnickoaa.Ring
