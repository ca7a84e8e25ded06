/- recon: what comes, plain. -/
import Derived.Test.YtaoflcmjmhfblaaReconM
namespace Go.Proofs.Ytaoflcmjmhfblaa.C
open Go.Proofs.Ytaoflcmjmhfblaa.H
set_option linter.unusedVariables false
set_option linter.unusedSimpArgs false
structure EvV where
  kind : Int
  token : Int
  id : Int
def zEv : EvV := ⟨0, 0, 0⟩
def waitsI (s : Int) : Bool := s == 1 || s == 9 || s == 7
section
variable {α : Type} (iid ist : α → Int)
/-- The instance of an Id. -/
def lookI (L : List α) (x : Int) : Option α := L.find? (fun i => iid i == x)
/-- What comes of one that is told. -/
def evOf (o : Option α) (t : TolV) : List EvV :=
  match o with
  | none => if t.state = 2 then [⟨10, t.token, t.id⟩, ⟨12, 0, t.id⟩] else [⟨10, t.token, t.id⟩]
  | some i => if t.state = 2 ∧ waitsI (ist i) = true then [⟨12, 0, t.id⟩] else if t.state = 3 ∧ ist i = 7 then [⟨16, 0, t.id⟩] else []
def comeL (T : List TolV) (L : List α) : List EvV := T.flatMap (fun t => evOf ist (lookI iid L t.id) t)
def toldIn (T : List TolV) (x : Int) : Bool := T.any (fun t => t.id == x)
def goneOf (T : List TolV) (i : α) : List EvV := if toldIn T (iid i) = true then [] else [⟨15, 0, iid i⟩]
def goneL (T : List TolV) (L : List α) : List EvV := L.flatMap (goneOf iid T)
def allE (T : List TolV) (L : List α) : List EvV := comeL iid ist T L ++ goneL iid T L
end
/-- Each Id once, but for one that is granted and ready. -/
def OnceE (l : List EvV) : Prop := ∀ k i, k < i → i < l.length → (l.getD k zEv).id = (l.getD i zEv).id → (l.getD k zEv).kind = 10 ∧ (l.getD i zEv).kind = 12 ∧ k + 1 = i
theorem getD_mem_ {l : List EvV} {k : Nat} (h : k < l.length) : l.getD k zEv ∈ l := by
  rw [List.getD_eq_getElem?_getD, List.getElem?_eq_getElem h]
  exact List.getElem_mem _
theorem once_append {l m : List EvV} (h1 : OnceE l) (h2 : OnceE m) (hd : ∀ x ∈ l, ∀ y ∈ m, x.id ≠ y.id) : OnceE (l ++ m) := by
  intro k i hk hi he
  rw [List.length_append] at hi
  rcases Nat.lt_or_ge i l.length with a | a
  · have e1 : (l ++ m).getD k zEv = l.getD k zEv := by simp [List.getD_eq_getElem?_getD, List.getElem?_append_left (show k < l.length by omega)]
    have e2 : (l ++ m).getD i zEv = l.getD i zEv := by simp [List.getD_eq_getElem?_getD, List.getElem?_append_left a]
    rw [e1, e2] at he ⊢
    exact h1 k i hk a he
  · have e2 : (l ++ m).getD i zEv = m.getD (i - l.length) zEv := by simp [List.getD_eq_getElem?_getD, List.getElem?_append_right a]
    rcases Nat.lt_or_ge k l.length with b | b
    · have e1 : (l ++ m).getD k zEv = l.getD k zEv := by simp [List.getD_eq_getElem?_getD, List.getElem?_append_left b]
      rw [e1, e2] at he
      exact absurd he (hd _ (getD_mem_ b) _ (getD_mem_ (by omega)))
    · have e1 : (l ++ m).getD k zEv = m.getD (k - l.length) zEv := by simp [List.getD_eq_getElem?_getD, List.getElem?_append_right b]
      rw [e1, e2] at he ⊢
      have := h2 (k - l.length) (i - l.length) (by omega) (by omega) he
      exact ⟨this.1, this.2.1, by omega⟩
theorem once_nil : OnceE [] := fun k i _ h => absurd h (Nat.not_lt_zero _)
theorem once_one (e : EvV) : OnceE [e] := fun k i hk hi => by simp at hi; omega
section
variable {α : Type} {iid ist : α → Int}
theorem evOf_id {o : Option α} {t : TolV} : ∀ e ∈ evOf ist o t, e.id = t.id := by
  intro e he
  unfold evOf at he
  cases o with
  | none => simp only at he; split at he <;> simp at he <;> (try rcases he with h | h) <;> simp_all
  | some i => simp only at he; split at he <;> (try split at he) <;> simp at he <;> simp_all
theorem evOf_once (o : Option α) (t : TolV) : OnceE (evOf ist o t) := by
  unfold evOf
  cases o with
  | none =>
    simp only
    split
    · intro k i hk hi he
      simp at hi
      have e1 : k = 0 := by omega
      have e2 : i = 1 := by omega
      subst e1; subst e2
      simp
    · exact once_one _
  | some i =>
    simp only
    split
    · exact once_one _
    · split
      · exact once_one _
      · exact once_nil
theorem come_id {T : List TolV} {L : List α} : ∀ e ∈ comeL iid ist T L, ∃ t ∈ T, e ∈ evOf ist (lookI iid L t.id) t := by
  intro e he
  obtain ⟨t, ht, h⟩ := List.mem_flatMap.1 he
  exact ⟨t, ht, h⟩
theorem come_once : ∀ {T : List TolV} {L : List α}, T.Pairwise (fun a b => a.id ≠ b.id) → OnceE (comeL iid ist T L)
  | [], L, _ => once_nil
  | t :: T, L, h => by
    obtain ⟨h1, h2⟩ := List.pairwise_cons.1 h
    show OnceE (evOf ist (lookI iid L t.id) t ++ comeL iid ist T L)
    refine once_append (evOf_once _ _) (come_once h2) (fun x hx y hy => ?_)
    obtain ⟨t', ht', hy'⟩ := come_id y hy
    rw [evOf_id x hx, evOf_id y hy']
    exact h1 t' ht'
theorem gone_mem {T : List TolV} {L : List α} : ∀ e ∈ goneL iid T L, ∃ i ∈ L, toldIn T (iid i) = false ∧ e = ⟨15, 0, iid i⟩ := by
  intro e he
  obtain ⟨i, hi, h⟩ := List.mem_flatMap.1 he
  unfold goneOf at h
  split at h
  · cases h
  · rename_i hn
    exact ⟨i, hi, by simpa using hn, by simpa using h⟩
theorem gone_once {T : List TolV} : ∀ {L : List α}, L.Pairwise (fun a b => iid a ≠ iid b) → OnceE (goneL iid T L)
  | [], _ => once_nil
  | i :: L, h => by
    obtain ⟨h1, h2⟩ := List.pairwise_cons.1 h
    show OnceE (goneOf iid T i ++ goneL iid T L)
    refine once_append ?_ (gone_once h2) (fun x hx y hy => ?_)
    · unfold goneOf; split
      · exact once_nil
      · exact once_one _
    · obtain ⟨j, hj, _, rfl⟩ := gone_mem y hy
      have hx' : x.id = iid i := by
        unfold goneOf at hx
        split at hx
        · cases hx
        · simp at hx; rw [hx]
      rw [hx']
      exact h1 j hj
theorem toldIn_iff {T : List TolV} {x : Int} : toldIn T x = true ↔ ∃ t ∈ T, t.id = x := by
  unfold toldIn
  rw [List.any_eq_true]
  constructor
  · rintro ⟨t, ht, h⟩; exact ⟨t, ht, by simpa using h⟩
  · rintro ⟨t, ht, h⟩; exact ⟨t, ht, by simpa using h⟩
theorem all_once {T : List TolV} {L : List α} (hT : T.Pairwise (fun a b => a.id ≠ b.id)) (hL : L.Pairwise (fun a b => iid a ≠ iid b)) : OnceE (allE iid ist T L) := by
  refine once_append (come_once hT) (gone_once hL) (fun x hx y hy => ?_)
  obtain ⟨t, ht, hx'⟩ := come_id x hx
  obtain ⟨i, hi, hn, rfl⟩ := gone_mem y hy
  rw [evOf_id x hx']
  intro e
  have := toldIn_iff.2 ⟨t, ht, e⟩
  rw [hn] at this
  cases this
/-- What is said of each one that comes. -/
def FineE (iid : α → Int) (T : List TolV) (L : List α) (e : EvV) : Prop :=
  (e.kind = 10 ∧ lookI iid L e.id = none ∧ ∃ t ∈ T, t.id = e.id ∧ t.token = e.token) ∨ (e.kind = 12 ∧ ∃ t ∈ T, t.id = e.id ∧ t.state = 2) ∨
  (e.kind = 16 ∧ (lookI iid L e.id).isSome = true ∧ ∃ t ∈ T, t.id = e.id ∧ t.state = 3) ∨ (e.kind = 15 ∧ (lookI iid L e.id).isSome = true ∧ toldIn T e.id = false)
theorem all_fine {T : List TolV} {L : List α} : ∀ e ∈ allE iid ist T L, FineE iid T L e := by
  intro e he
  rcases List.mem_append.1 he with h | h
  · obtain ⟨t, ht, h⟩ := come_id e h
    unfold evOf at h
    cases ho : lookI iid L t.id with
    | none =>
      rw [ho] at h
      simp only at h
      split at h
      · rename_i hs
        simp at h
        rcases h with rfl | rfl
        · exact .inl ⟨rfl, ho, t, ht, rfl, rfl⟩
        · exact .inr (.inl ⟨rfl, t, ht, rfl, hs⟩)
      · simp at h
        subst h
        exact .inl ⟨rfl, ho, t, ht, rfl, rfl⟩
    | some i =>
      rw [ho] at h
      simp only at h
      split at h
      · rename_i hs
        simp at h
        subst h
        exact .inr (.inl ⟨rfl, t, ht, rfl, hs.1⟩)
      · split at h
        · rename_i hs
          simp at h
          subst h
          exact .inr (.inr (.inl ⟨rfl, by show (lookI iid L t.id).isSome = true; rw [ho]; rfl, t, ht, rfl, hs.1⟩))
        · cases h
  · obtain ⟨i, hi, hn, rfl⟩ := gone_mem e h
    refine .inr (.inr (.inr ⟨rfl, ?_, hn⟩))
    show (L.find? _).isSome = true
    rw [List.find?_isSome]
    exact ⟨i, hi, by simp⟩
/-- What lookI is, where the place is known from which on the Ids are no less. -/
theorem lookI_at (z : α) {L : List α} {x : Int} {k : Nat} (hlt : ∀ j, j < k → iid (L.getD j z) < x) (hge : k < L.length → x ≤ iid (L.getD k z)) (hinc : ∀ i j, i < j → j < L.length → iid (L.getD i z) < iid (L.getD j z)) :
    lookI iid L x = if k < L.length ∧ iid (L.getD k z) = x then some (L.getD k z) else none := by
  have get : ∀ i ∈ L, ∃ j, j < L.length ∧ L.getD j z = i := fun i hi => by
    obtain ⟨j, hj, rfl⟩ := List.getElem_of_mem hi
    exact ⟨j, hj, by rw [List.getD_eq_getElem?_getD, List.getElem?_eq_getElem hj]; rfl⟩
  by_cases h : k < L.length ∧ iid (L.getD k z) = x
  · rw [if_pos h]
    unfold lookI
    cases hf : L.find? (fun i => iid i == x) with
    | none =>
      have := List.find?_eq_none.1 hf (L.getD k z) (by rw [List.getD_eq_getElem?_getD, List.getElem?_eq_getElem h.1]; exact List.getElem_mem _)
      exact absurd (beq_iff_eq.2 h.2) this
    | some i =>
      have h1 := List.find?_some hf
      have h2 := List.mem_of_find?_eq_some hf
      obtain ⟨j, hj, rfl⟩ := get i h2
      have h1 := beq_iff_eq.1 h1
      rcases Nat.lt_trichotomy j k with q | q | q
      · have := hlt j q; omega
      · rw [q]
      · have := hinc k j q hj; omega
  · rw [if_neg h]
    unfold lookI
    rw [List.find?_eq_none]
    intro i hi
    obtain ⟨j, hj, rfl⟩ := get i hi
    intro e
    have e := beq_iff_eq.1 e
    rcases Nat.lt_trichotomy j k with q | q | q
    · have := hlt j q; omega
    · subst q; exact h ⟨hj, e⟩
    · have := hinc k j q hj
      have := hge (by omega)
      omega
/-- A sorted list's search, as the code makes it: from a place on. -/
theorem toldIn_at {T : List TolV} {x : Int} {k : Nat} (hlt : ∀ j, j < k → (T.getD j noTol).id < x) (hge : k < T.length → x ≤ (T.getD k noTol).id) (hinc : ∀ i j, i < j → j < T.length → (T.getD i noTol).id < (T.getD j noTol).id) :
    toldIn T x = decide (k < T.length ∧ (T.getD k noTol).id = x) := by
  have h := lookI_at (iid := fun t : TolV => t.id) noTol hlt hge hinc
  have e : toldIn T x = (lookI (fun t : TolV => t.id) T x).isSome := by
    rw [Bool.eq_iff_iff, toldIn_iff]
    unfold lookI
    rw [List.find?_isSome]
    simp
  rw [e, h]
  by_cases q : k < T.length ∧ (T.getD k noTol).id = x
  · rw [if_pos q, decide_eq_true q]; rfl
  · rw [if_neg q, decide_eq_false q]; rfl
/-- What the document's keeper of instances is told of itself. -/
def stillOf (iid ist : α → Int) (i : α) : TolV := ⟨iid i, 1, if ist i = 8 then 3 else if ist i = 1 ∨ ist i = 9 ∨ ist i = 7 then 1 else 2⟩
theorem still_come {L : List α} (hL : L.Pairwise (fun a b => iid a ≠ iid b)) : comeL iid ist (L.map (stillOf iid ist)) L = [] := by
  unfold comeL
  rw [List.flatMap_eq_nil_iff]
  intro t ht
  obtain ⟨i, hi, rfl⟩ := List.mem_map.1 ht
  have hlook : lookI iid L (iid i) = some i := by
    unfold lookI
    cases hf : L.find? (fun j => iid j == iid i) with
    | none => have := List.find?_eq_none.1 hf i hi; simp at this
    | some j =>
      have h1 : iid j = iid i := by have := List.find?_some hf; simpa using this
      have h2 := List.mem_of_find?_eq_some hf
      congr 1
      rcases List.mem_iff_getElem.1 h2 with ⟨a, ha, rfl⟩
      rcases List.mem_iff_getElem.1 hi with ⟨b, hb, rfl⟩
      rcases Nat.lt_trichotomy a b with q | q | q
      · exact absurd h1 (List.pairwise_iff_getElem.1 hL a b ha hb q)
      · subst q; rfl
      · exact absurd h1.symm (List.pairwise_iff_getElem.1 hL b a hb ha q)
  show evOf ist (lookI iid L (iid i)) (stillOf iid ist i) = []
  rw [hlook]
  unfold evOf stillOf waitsI
  simp only
  by_cases h8 : ist i = 8
  · simp [h8]
  · by_cases h1 : ist i = 1 ∨ ist i = 9 ∨ ist i = 7
    · simp [h8, h1]
    · simp only [if_neg h8, if_neg h1]
      simp only [not_or] at h1
      simp [h1.1, h1.2.1, h1.2.2]
theorem still_gone {L : List α} : goneL iid (L.map (stillOf iid ist)) L = [] := by
  unfold goneL
  rw [List.flatMap_eq_nil_iff]
  intro i hi
  unfold goneOf
  have hh : toldIn (L.map (stillOf iid ist)) (iid i) = true := toldIn_iff.2 ⟨stillOf iid ist i, List.mem_map.2 ⟨i, hi, rfl⟩, rfl⟩
  rw [if_pos hh]
end
end Go.Proofs.Ytaoflcmjmhfblaa.C
