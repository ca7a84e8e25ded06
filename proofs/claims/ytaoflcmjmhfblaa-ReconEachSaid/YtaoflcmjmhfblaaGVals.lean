/- A region that draws its order and fills a map with a table: the values that are known, the map that it has become. -/
import Derived.Test.YtaoflcmjmhfblaaGDraw
namespace Go.Proofs.Ytaoflcmjmhfblaa.H
open Go.RowKit Go.Proofs.YtaoflcmjmhfblaaW.PrintWords Go.Proofs.YtaoflcmjmhfblaaW.PrintLast Go.Proofs.YtaoflcmjmhfblaaW.PrintMore
set_option linter.unusedVariables false
set_option linter.unusedSimpArgs false
set_option linter.unusedSectionVars false
/-- What is done behind one operation more. -/
def addL (L : Nat → Bool) (i : Nat) : Nat → Bool := fun j => if j = i then true else L j
theorem addL_self (L : Nat → Bool) (i : Nat) : addL L i i = true := by simp [addL]
theorem addL_ne (L : Nat → Bool) {i j : Nat} (h : j ≠ i) : addL L i j = L j := by simp [addL, h]
theorem addL_out (L : Nat → Bool) {α : Type} {f : α → Nat} {l : List α} {p : α} {i q : Nat} (hp : p ∈ l) (hi : i ∉ l.map f) (hq : f p = q) : addL L i q = L q :=
  addL_ne L (fun e => hi (List.mem_map.2 ⟨p, hp, hq.trans e⟩))
theorem put_eval_same {a : Act} {s : Nat} {v : Value} (h : s < a.tmps.size) : (a.put (some s) v).eval (.tmp s) = v := by
  simp [Act.put, Act.eval, Array.getD_eq_getD_getElem?, h]
theorem put_eval_ne {a : Act} {s k : Nat} {v : Value} (h : k ≠ s) : (a.put (some s) v).eval (.tmp k) = a.eval (.tmp k) := by
  simp only [Act.put, Act.eval, Array.getD_eq_getD_getElem?]
  rw [Array.getElem?_setIfInBounds_ne (fun e => h e.symm)]
theorem put_size {a : Act} {s : Nat} {v : Value} : (a.put (some s) v).tmps.size = a.tmps.size := by simp [Act.put]
theorem put_defers {a : Act} {s : Nat} {v : Value} : (a.put (some s) v).defers = a.defers := rfl
/-- The values of the operations that are done: E has an operation, its slot, its value; ks: all slots that the region writes. -/
structure VInv (E : List (Nat × Nat × Value)) (ks : List Nat) (a0 : Act) (L : Nat → Bool) (a : Act) : Prop where
  size : a.tmps.size = a0.tmps.size
  defers : a.defers = a0.defers
  keep : ∀ k, k ∉ ks → a.eval (.tmp k) = a0.eval (.tmp k)
  vals : ∀ p ∈ E, L p.1 = true → a.eval (.tmp p.2.1) = p.2.2
theorem VInv.start (E : List (Nat × Nat × Value)) (ks : List Nat) (a0 : Act) : VInv E ks a0 (fun _ => false) a0 := ⟨rfl, rfl, (fun _ _ => rfl), (fun _ _ h => by cases h)⟩
theorem VInv.get {E : List (Nat × Nat × Value)} {ks : List Nat} {a0 a : Act} {L : Nat → Bool} (h : VInv E ks a0 L a) (j : Nat) {i s : Nat} {v : Value} (hj : E[j]? = some (i, s, v)) (hL : L i = true) : a.eval (.tmp s) = v :=
  h.vals _ (List.mem_of_getElem? hj) hL
theorem nodup_get {α β : Type} (f : α → β) {l : List α} (hn : (l.map f).Nodup) {x y : α} (hx : x ∈ l) (hy : y ∈ l) (he : f x = f y) : x = y := by
  induction l with
  | nil => cases hx
  | cons z r ih =>
    rw [List.map_cons, List.nodup_cons] at hn
    rcases List.mem_cons.1 hx with ex | hx <;> rcases List.mem_cons.1 hy with ey | hy
    · rw [ex, ey]
    · exact absurd (List.mem_map.2 ⟨y, hy, he.symm.trans (by rw [ex])⟩) hn.1
    · exact absurd (List.mem_map.2 ⟨x, hx, he.trans (by rw [ey])⟩) hn.1
    · exact ih hn.2 hx hy
/-- A known value is put. -/
theorem VInv.put {E : List (Nat × Nat × Value)} {ks : List Nat} {a0 a : Act} {L : Nat → Bool} (h : VInv E ks a0 L a) (hn : (E.map (·.1)).Nodup) (hs : (E.map (·.2.1)).Nodup) (j : Nat) {i s : Nat} {v : Value} (hj : E[j]? = some (i, s, v)) (hk : s ∈ ks) (hz : s < a0.tmps.size) : VInv E ks a0 (addL L i) (a.put (some s) v) where
  size := put_size.trans h.size
  defers := h.defers
  keep k hk2 := (put_eval_ne (fun e => hk2 (by rw [e]; exact hk))).trans (h.keep k hk2)
  vals p hp hL := by
    have hm := List.mem_of_getElem? hj
    by_cases e : p.1 = i
    · have := nodup_get (·.1) hn hp hm e
      subst this
      exact put_eval_same (by rw [h.size]; exact hz)
    · rw [addL_ne L e] at hL
      have hne : p.2.1 ≠ s := fun e2 => e (by have := nodup_get (·.2.1) hs hp hm e2; subst this; rfl)
      exact (put_eval_ne hne).trans (h.vals p hp hL)
/-- Another slot is put, by an operation that is not in E. -/
theorem VInv.other {E : List (Nat × Nat × Value)} {ks : List Nat} {a0 a : Act} {L : Nat → Bool} (h : VInv E ks a0 L a) {i s : Nat} {v : Value} (hi : i ∉ E.map (·.1)) (hs : s ∉ E.map (·.2.1)) (hk : s ∈ ks) : VInv E ks a0 (addL L i) (a.put (some s) v) where
  size := put_size.trans h.size
  defers := h.defers
  keep k hk2 := (put_eval_ne (fun e => hk2 (by rw [e]; exact hk))).trans (h.keep k hk2)
  vals p hp hL := by
    have e : p.1 ≠ i := fun e => hi (e ▸ List.mem_map.2 ⟨p, hp, rfl⟩)
    rw [addL_ne L e] at hL
    have hne : p.2.1 ≠ s := fun e2 => hs (List.mem_map.2 ⟨p, hp, e2⟩)
    exact (put_eval_ne hne).trans (h.vals p hp hL)
/-- Nothing is put, by an operation that is not in E. -/
theorem VInv.skip {E : List (Nat × Nat × Value)} {ks : List Nat} {a0 a : Act} {L : Nat → Bool} (h : VInv E ks a0 L a) {i : Nat} (hi : i ∉ E.map (·.1)) : VInv E ks a0 (addL L i) a where
  size := h.size
  defers := h.defers
  keep := h.keep
  vals p hp hL := by
    have e : p.1 ≠ i := fun e => hi (e ▸ List.mem_map.2 ⟨p, hp, rfl⟩)
    rw [addL_ne L e] at hL
    exact h.vals p hp hL
section
variable {κ ν : Type} [DecidableEq κ] {encK : κ → Value} {encV : ν → Value}
/-- What the rows of a table that are done tell of a key. -/
def tabL (L : Nat → Bool) : List (Nat × κ × ν) → κ → Option ν
  | [], _ => none
  | p :: r, b => if L p.1 = true ∧ b = p.2.1 then some p.2.2 else tabL L r b
theorem tabL_none {L : Nat → Bool} {b : κ} : ∀ {T : List (Nat × κ × ν)}, (∀ p ∈ T, L p.1 = false) → tabL L T b = none
  | [], _ => rfl
  | p :: r, h => by
    unfold tabL
    rw [if_neg (fun e => by have := h p (List.mem_cons_self ..); rw [e.1] at this; cases this)]
    exact tabL_none (fun q hq => h q (List.mem_cons_of_mem _ hq))
theorem tabL_same {L L' : Nat → Bool} {b : κ} : ∀ {T : List (Nat × κ × ν)}, (∀ p ∈ T, L' p.1 = L p.1 ∨ b ≠ p.2.1) → tabL L' T b = tabL L T b
  | [], _ => rfl
  | p :: r, h => by
    unfold tabL
    rw [tabL_same (fun q hq => h q (List.mem_cons_of_mem _ hq))]
    rcases h p (List.mem_cons_self ..) with e | e
    · rw [e]
    · rw [if_neg (fun q => e q.2), if_neg (fun q => e q.2)]
theorem tabL_hit {L : Nat → Bool} {p : Nat × κ × ν} : ∀ {T : List (Nat × κ × ν)}, p ∈ T → L p.1 = true → (T.map (·.2.1)).Nodup → tabL L T p.2.1 = some p.2.2
  | [], h, _, _ => by cases h
  | q :: r, h, hL, hn => by
    rw [List.map_cons, List.nodup_cons] at hn
    unfold tabL
    rcases List.mem_cons.1 h with rfl | h
    · rw [if_pos ⟨hL, rfl⟩]
    · rw [if_neg (fun e => hn.1 (List.mem_map.2 ⟨p, h, e.2⟩))]
      exact tabL_hit h hL hn.2
/-- The map of the region: made by operation 0 into slot m; mp: the operations that hand it on, with their slots; T: the rows of the table, each with its operation. -/
structure MInv (encK : κ → Value) (encV : ν → Value) (m : Nat) (mp : List (Nat × Nat)) (T : List (Nat × κ × ν)) (w0 : World) (L : Nat → Bool) (a : Act) (w : World) (B : Nat) (l : List (κ × ν)) : Prop where
  below : Below w0.heap.size w0 w
  own : L 0 = true → a.eval (.tmp m) = .map (some B) ∧ w0.heap.size ≤ B ∧ MapR encK encV w B l ∧ ∀ b, lookL l b = tabL L T b
  aft : ∀ p ∈ mp, L p.1 = true → L 0 = true ∧ a.eval (.tmp p.2) = .map (some B)
  rows : ∀ p ∈ T, L p.1 = true → L 0 = true
variable {m : Nat} {mp : List (Nat × Nat)} {T : List (Nat × κ × ν)} {w0 w w' : World} {L : Nat → Bool} {a : Act} {B : Nat} {l : List (κ × ν)}
theorem MInv.start (hb : Below w0.heap.size w0 w) : MInv encK encV m mp T w0 (fun _ => false) a w B l := ⟨hb, (fun h => by cases h), (fun _ _ h => by cases h), (fun _ _ h => by cases h)⟩
/-- A value is put that is none of the map's. -/
theorem MInv.val (h : MInv encK encV m mp T w0 L a w B l) {i s : Nat} {v : Value} (hi : i ≠ 0 ∧ i ∉ mp.map (·.1) ∧ i ∉ T.map (·.1)) (hs : s ≠ m ∧ s ∉ mp.map (·.2)) (hb : Below w.heap.size w w') : MInv encK encV m mp T w0 (addL L i) (a.put (some s) v) w' B l where
  below := below_step h.below hb
  own hL := by
    rw [addL_ne L (fun e => hi.1 e.symm)] at hL
    obtain ⟨h1, h2, h3, h4⟩ := h.own hL
    refine ⟨(put_eval_ne (fun e => hs.1 e.symm)).trans h1, h2, h3.later hb, fun b => (h4 b).trans (tabL_same (fun p hp => .inl ?_)).symm⟩
    exact addL_out L hp hi.2.2 rfl
  aft p hp hL := by
    rw [addL_out L hp hi.2.1 rfl] at hL
    obtain ⟨h1, h2⟩ := h.aft p hp hL
    exact ⟨by unfold addL; split <;> first | rfl | exact h1, (put_eval_ne (k := p.2) (fun e => hs.2 (List.mem_map.2 ⟨p, hp, e⟩))).trans h2⟩
  rows p hp hL := by
    rw [addL_out L hp hi.2.2 rfl] at hL
    have := h.rows p hp hL
    unfold addL
    split <;> first | rfl | exact this
/-- The map is made. -/
theorem MInv.make (h : MInv encK encV m mp T w0 L a w B l) (h0 : L 0 = false) (hT : 0 ∉ T.map (·.1)) (hmp : 0 ∉ mp.map (·.1)) (hz : m < a.tmps.size) : MInv encK encV m mp T w0 (addL L 0) (a.put (some m) (.map (some w.heap.size))) (w.alloc (.map #[] 0)) w.heap.size ([] : List (κ × ν)) where
  below := h.below.alloc h.below.size _
  own _ := by
    refine ⟨put_eval_same hz, h.below.size, MapR.made w, fun b => ?_⟩
    rw [lookL_nil]
    refine (tabL_none (fun p hp => ?_)).symm
    rw [addL_out L hp hT rfl]
    cases hq : L p.1 with
    | false => rfl
    | true => rw [h.rows p hp hq] at h0; cases h0
  aft p hp hL := by
    rw [addL_out L hp hmp rfl] at hL
    rw [(h.aft p hp hL).1] at h0
    cases h0
  rows _ _ _ := addL_self L 0
/-- A row is stored. -/
theorem MInv.row {P : Program} {kt vt t : TypeId} (K : KeyOk P kt encK) (ht : P.underlying t = some (.map kt vt)) (h : MInv encK encV m mp T w0 L a w B l) (hn : (T.map (·.1)).Nodup) (hk : (T.map (·.2.1)).Nodup) (j : Nat) {i : Nat} {k : κ} {v : ν} (hj : T[j]? = some (i, k, v)) (hi : i ∉ mp.map (·.1)) (h0 : L 0 = true) :
    ∃ w', (Instr.mapUpdate t (.map (some B)) (encK k) (encV v)).run P w = .ok () w' ∧ MInv encK encV m mp T w0 (addL L i) a w' B (setL l k v) := by
  obtain ⟨h1, h2, h3, h4⟩ := h.own h0
  obtain ⟨w', hr, hm, hg⟩ := h3.update K ht k v
  have hmem := List.mem_of_getElem? hj
  have hone : ∀ q, q = 0 ∨ True → addL L i 0 = true := by
    intro _ _
    unfold addL
    split <;> first | rfl | exact h0
  refine ⟨w', hr, ⟨h.below.grown hg h.below.size (fun k e => by cases e; exact h2), fun _ => ⟨h1, h2, hm, fun b => ?_⟩, fun p hp hL => ?_, fun p hp hL => hone 0 (.inr trivial)⟩⟩
  · rw [lookL_setL]
    by_cases e : b = k
    · subst e
      rw [if_pos rfl]
      exact (tabL_hit hmem (addL_self L i) hk).symm
    · rw [if_neg e, h4 b]
      refine (tabL_same (fun p hp => ?_)).symm
      by_cases e2 : p.1 = i
      · have := nodup_get (·.1) hn hp hmem e2
        subst this
        exact .inr e
      · exact .inl (addL_ne L e2)
  · rw [addL_out L hp hi rfl] at hL
    exact ⟨hone 0 (.inr trivial), (h.aft p hp hL).2⟩
/-- The map is handed on. -/
theorem MInv.hand (h : MInv encK encV m mp T w0 L a w B l) {i s : Nat} (hp : (i, s) ∈ mp) (hn : (mp.map (·.1)).Nodup) (hs : (mp.map (·.2)).Nodup) (hi : i ≠ 0 ∧ i ∉ T.map (·.1)) (hm : s ≠ m) (h0 : L 0 = true) (hz : s < a.tmps.size) : MInv encK encV m mp T w0 (addL L i) (a.put (some s) (.map (some B))) w B l where
  below := h.below
  own hL := by
    obtain ⟨h1, h2, h3, h4⟩ := h.own h0
    refine ⟨(put_eval_ne (fun e => hm e.symm)).trans h1, h2, h3, fun b => (h4 b).trans (tabL_same (fun p hp => .inl ?_)).symm⟩
    exact addL_out L hp hi.2 rfl
  aft p hq hL := by
    refine ⟨by rw [addL_ne L (fun e => hi.1 e.symm)]; exact h0, ?_⟩
    by_cases e : p.1 = i
    · have := nodup_get (·.1) hn hq hp e
      subst this
      exact put_eval_same hz
    · rw [addL_ne L e] at hL
      have hne : p.2 ≠ s := fun e2 => e (by have := nodup_get (·.2) hs hq hp e2; subst this; rfl)
      exact (put_eval_ne hne).trans (h.aft p hq hL).2
  rows p hq hL := by
    rw [addL_ne L (fun e => hi.1 e.symm)]; exact h0
end
end Go.Proofs.Ytaoflcmjmhfblaa.H
