/- Plain laws: the document's May and MayChange are the program's. -/
import Derived.Test.YtaoflcmjmhfblaaBaFind
import Derived.Test.YtaoflcmjmhfblaaBaGet2
import Derived.Test.YtaoflcmjmhfblaaD3
import Derived.Test.YtaoflcmjmhfblaaNumB
import Derived.Test.YtaoflcmjmhfblaaBaO
import Derived.Test.YtaoflcmjmhfblaaBaLives
namespace Go.Proofs.Ytaoflcmjmhfblaa.D
open Go.RowKit Go.Proofs.YtaoflcmjmhfblaaW.PrintWords Go.Proofs.YtaoflcmjmhfblaaW.PrintLast Go.Proofs.YtaoflcmjmhfblaaW.PrintMore Go.Proofs.Ytaoflcmjmhfblaa.H Go.Shelf
set_option linter.unusedVariables false
set_option linter.unusedSimpArgs false
/-- With enough fuel it is r. -/
def Ev {α : Type} (f : Nat → Option α) (r : α) : Prop := ∃ k0, ∀ k, k0 ≤ k → f k = some r
theorem Ev.val {α : Type} (r : α) : Ev (fun _ => some r) r := ⟨0, fun _ _ => rfl⟩
theorem Ev.of {α : Type} {f : Nat → Option α} {r : α} (h : ∀ k, f k = some r) : Ev f r := ⟨0, fun k _ => h k⟩
theorem Ev.step {α : Type} {f g : Nat → Option α} {r : α} (h : ∀ k, f (k + 1) = g k) (hg : Ev g r) : Ev f r := by
  obtain ⟨k0, h0⟩ := hg
  refine ⟨k0 + 1, fun k hk => ?_⟩
  obtain ⟨j, rfl⟩ : ∃ j, k = j + 1 := ⟨k - 1, by omega⟩
  rw [h j]
  exact h0 j (by omega)
theorem Ev.same {α : Type} {f g : Nat → Option α} {r : α} (h : ∀ k, f k = g k) (hg : Ev g r) : Ev f r := by
  obtain ⟨k0, h0⟩ := hg
  exact ⟨k0, fun k hk => by rw [h k]; exact h0 k hk⟩
theorem Ev.bind {α β : Type} {f : Nat → Option α} {h : Nat → α → Option β} {a : α} {r : β} (hf : Ev f a) (hh : Ev (fun k => h k a) r) : Ev (fun k => (f k).bind (h k)) r := by
  obtain ⟨k0, h0⟩ := hf
  obtain ⟨k1, h1⟩ := hh
  refine ⟨max k0 k1, fun k hk => ?_⟩
  show (f k).bind (h k) = some r
  rw [h0 k (by omega), Option.bind_some]
  exact h1 k (by omega)
theorem Ev.one {α : Type} {f : Nat → Option α} {r : α} (h : Ev f r) : ∃ k, f k = some r := by
  obtain ⟨k0, h0⟩ := h
  exact ⟨k0, h0 k0 (Nat.le_refl _)⟩
theorem wrapN (i : Nat) (h : i < 4611686018427387904) : wrap64 ((i : Int) + 1) = ((i + 1 : Nat) : Int) := by unfold wrap64; omega
theorem size_toList (b : ByteArray) : b.toList.isEmpty = (b.size == 0) := by
  rw [ByteArray.toList_eq]
  cases b with
  | mk a =>
    cases a with
    | mk l =>
      cases l <;> rfl
theorem keyed_eq (a b : ByteArray) (c : Bool) : cohortref09_keyed.f a b c = some (!a.toList.isEmpty && decide (a.size ≤ 16) && (c || Op.bytesLess b.toList a.toList)) := by
  unfold cohortref09_keyed.f
  rw [size_toList]
  by_cases h1 : (a.size : Int) ≥ 1
  · rw [if_pos h1]
    have e1 : (a.size == 0) = false := beq_eq_false_iff_ne.2 (by omega)
    rw [e1]
    by_cases h2 : (a.size : Int) ≤ 16
    · rw [if_pos h2, decide_eq_true (show a.size ≤ 16 by omega)]
      cases c <;> simp
    · rw [if_neg h2, decide_eq_false (show ¬ a.size ≤ 16 by omega)]
      simp
  · rw [if_neg h1]
    have e1 : (a.size == 0) = true := beq_iff_eq.2 (by omega)
    rw [e1]
    rfl
theorem rd_row (l : List RowS) (i : Nat) : rd_T161 l (i : Int) = l.getD i z161 := by unfold rd_T161; rw [Int.toNat_natCast]
theorem rd_chg (l : List ChgS) (i : Nat) : rd_T96 l (i : Int) = l.getD i z96 := by unfold rd_T96; rw [Int.toNat_natCast]
theorem may_loop (l : List RowS) (hn : l.length < 4611686018427387904) : ∀ (d i : Nat) (last : ByteArray), i + d = l.length → (0 < i → last = keyR l (i - 1)) →
    Ev (fun k => cohortref09_May.l0 k l last (i : Int)) ((List.range' i d).all (okAt (keyR l) (lenR l)))
  | 0, i, last, hi, hl => by
    refine Ev.step (g := fun _ => some true) (fun k => ?_) (Ev.val _)
    show cohortref09_May.l0 (k + 1) l last i = some true
    unfold cohortref09_May.l0
    rw [if_neg (by omega)]
  | d + 1, i, last, hi, hl => by
    have ih := may_loop l hn d (i + 1) (keyR l i) (by omega) (fun _ => by rw [Nat.add_sub_cancel])
    have hk : okAt (keyR l) (lenR l) i = ((!(keyR l i).toList.isEmpty && decide ((keyR l i).size ≤ 16) && (((i : Int) == 0) || Op.bytesLess last.toList (keyR l i).toList)) && decide (lenR l i ≤ 524288)) := by
      unfold okAt
      rcases Nat.eq_zero_or_pos i with h | h
      · subst h; rfl
      · have e1 : (i == 0) = false := by simp; omega
        have e2 : ((i : Int) == 0) = false := by simp; omega
        rw [e1, e2, hl h]
    rw [List.range'_succ, List.all_cons, hk]
    refine Ev.step (g := fun k => (cohortref09_keyed.f (keyR l i) last ((i : Int) == 0)).bind fun t => (if t = true then (if (lenR l i : Int) > 524288 then (some false) else cohortref09_May.l0 k l (keyR l i) ((i + 1 : Nat) : Int)) else (some false))) (fun k => ?_) ?_
    · show cohortref09_May.l0 (k + 1) l last i = _
      conv => lhs; unfold cohortref09_May.l0
      rw [if_pos (by omega), if_pos (by omega), rd_row, wrapN i (by omega)]
      rfl
    · rw [keyed_eq]
      generalize (!(keyR l i).toList.isEmpty && decide ((keyR l i).size ≤ 16) && (((i : Int) == 0) || Op.bytesLess last.toList (keyR l i).toList)) = b
      cases b with
      | false => exact Ev.val _
      | true =>
        by_cases hv : (lenR l i : Int) > 524288
        · rw [decide_eq_false (show ¬ lenR l i ≤ 524288 by omega)]
          refine Ev.of (fun k => ?_)
          simp only [Option.bind_some]
          rw [if_pos True.intro, if_pos hv]
          rfl
        · rw [decide_eq_true (show lenR l i ≤ 524288 by omega)]
          refine Ev.same (g := fun k => cohortref09_May.l0 k l (keyR l i) ((i + 1 : Nat) : Int)) (fun k => ?_) (by simpa using ih)
          simp only [Option.bind_some]
          rw [if_pos True.intro, if_neg hv]
theorem may_eq (l : List RowS) (hn : l.length < 4611686018427387904) : Ev (fun k => cohortref09_May.f k l) (mayR l) := by
  have := may_loop l hn l.length 0 ⟨#[]⟩ (by omega) (fun h => absurd h (by omega))
  unfold mayR risingI
  rw [List.range_eq_range']
  exact this
theorem mayc_loop (l : List ChgS) (hn : l.length < 4611686018427387904) : ∀ (d i : Nat) (last : ByteArray), i + d = l.length → (0 < i → last = keyC l (i - 1)) →
    Ev (fun k => cohortref09_MayChange.l0 k l last (i : Int)) ((List.range' i d).all (fun j => okAt (keyC l) (lenC l) j && !badC (l.getD j z96)))
  | 0, i, last, hi, hl => by
    refine Ev.step (g := fun _ => some true) (fun k => ?_) (Ev.val _)
    show cohortref09_MayChange.l0 (k + 1) l last i = some true
    unfold cohortref09_MayChange.l0
    rw [if_neg (by omega)]
  | d + 1, i, last, hi, hl => by
    have ih := mayc_loop l hn d (i + 1) (keyC l i) (by omega) (fun _ => by rw [Nat.add_sub_cancel])
    have hk : okAt (keyC l) (lenC l) i = ((!(keyC l i).toList.isEmpty && decide ((keyC l i).size ≤ 16) && (((i : Int) == 0) || Op.bytesLess last.toList (keyC l i).toList)) && decide (lenC l i ≤ 524288)) := by
      unfold okAt
      rcases Nat.eq_zero_or_pos i with h | h
      · subst h; rfl
      · have e1 : (i == 0) = false := by simp; omega
        have e2 : ((i : Int) == 0) = false := by simp; omega
        rw [e1, e2, hl h]
    rw [List.range'_succ, List.all_cons, hk]
    refine Ev.step (g := fun k => (cohortref09_keyed.f (keyC l i) last ((i : Int) == 0)).bind fun t => (if t = true then (if (lenC l i : Int) > 524288 then (some false) else (if (l.getD i z96).f2 = true then (if (lenC l i : Int) > 0 then (some false) else cohortref09_MayChange.l0 k l (keyC l i) ((i + 1 : Nat) : Int)) else cohortref09_MayChange.l0 k l (keyC l i) ((i + 1 : Nat) : Int))) else (some false))) (fun k => ?_) ?_
    · show cohortref09_MayChange.l0 (k + 1) l last i = _
      conv => lhs; unfold cohortref09_MayChange.l0
      rw [if_pos (by omega), if_pos (by omega), rd_chg, wrapN i (by omega)]
      rfl
    · rw [keyed_eq]
      generalize (!(keyC l i).toList.isEmpty && decide ((keyC l i).size ≤ 16) && (((i : Int) == 0) || Op.bytesLess last.toList (keyC l i).toList)) = b
      have hbad : badC (l.getD i z96) = ((l.getD i z96).f2 && decide (0 < lenC l i)) := rfl
      rw [hbad]
      cases b with
      | false => exact Ev.val _
      | true =>
        by_cases hv : (lenC l i : Int) > 524288
        · rw [decide_eq_false (show ¬ lenC l i ≤ 524288 by omega)]
          refine Ev.of (fun k => ?_)
          simp only [Option.bind_some]
          rw [if_pos True.intro, if_pos hv]
          rfl
        · rw [decide_eq_true (show lenC l i ≤ 524288 by omega)]
          cases hf : (l.getD i z96).f2 with
          | false =>
            refine Ev.same (g := fun k => cohortref09_MayChange.l0 k l (keyC l i) ((i + 1 : Nat) : Int)) (fun k => ?_) (by simpa using ih)
            simp only [Option.bind_some]
            rw [if_pos True.intro, if_neg hv, if_neg Bool.false_ne_true]
          | true =>
            by_cases hz : (lenC l i : Int) > 0
            · rw [decide_eq_true (show 0 < lenC l i by omega)]
              refine Ev.of (fun k => ?_)
              simp only [Option.bind_some]
              rw [if_pos True.intro, if_neg hv, if_pos True.intro, if_pos hz]
              rfl
            · rw [decide_eq_false (show ¬ 0 < lenC l i by omega)]
              refine Ev.same (g := fun k => cohortref09_MayChange.l0 k l (keyC l i) ((i + 1 : Nat) : Int)) (fun k => ?_) (by simpa using ih)
              simp only [Option.bind_some]
              rw [if_pos True.intro, if_neg hv, if_pos True.intro, if_neg hz]
theorem any_range {α : Type} (p : α → Bool) (z : α) (l : List α) : l.any p = (List.range l.length).any (fun j => p (l.getD j z)) := by
  rw [Bool.eq_iff_iff, List.any_eq_true, List.any_eq_true]
  constructor
  · rintro ⟨x, hx, hp⟩
    obtain ⟨i, hi, rfl⟩ := List.mem_iff_getElem.1 hx
    exact ⟨i, List.mem_range.2 hi, by rw [List.getD_eq_getElem?_getD, List.getElem?_eq_getElem hi]; exact hp⟩
  · rintro ⟨i, hi, hp⟩
    have hi := List.mem_range.1 hi
    rw [List.getD_eq_getElem?_getD, List.getElem?_eq_getElem hi] at hp
    exact ⟨_, List.getElem_mem hi, hp⟩
theorem all_and {α : Type} (p q : α → Bool) (l : List α) : l.all (fun x => p x && !q x) = (!l.any q && l.all p) := by
  induction l with
  | nil => rfl
  | cons x l ih =>
    simp only [List.all_cons, List.any_cons, ih]
    cases p x <;> cases q x <;> cases l.any q <;> cases l.all p <;> rfl
theorem mayc_eq (l : List ChgS) (hn : l.length < 4611686018427387904) : Ev (fun k => cohortref09_MayChange.f k l) (mayC l) := by
  have h := mayc_loop l hn l.length 0 ⟨#[]⟩ (by omega) (fun h => absurd h (by omega))
  unfold mayC risingI
  rw [any_range badC z96 l, List.range_eq_range', ← all_and]
  exact h
end Go.Proofs.Ytaoflcmjmhfblaa.D
/- Plain laws: rows in order; a list in order is one alone. -/
namespace Go.Proofs.Ytaoflcmjmhfblaa.D
open Go.RowKit Go.Proofs.YtaoflcmjmhfblaaW.PrintWords Go.Proofs.YtaoflcmjmhfblaaW.PrintLast Go.Proofs.YtaoflcmjmhfblaaW.PrintMore Go.Proofs.Ytaoflcmjmhfblaa.H Go.Shelf
set_option linter.unusedVariables false
set_option linter.unusedSimpArgs false
def ltK (a b : ByteArray) : Prop := a.data.toList < b.data.toList
theorem ltK_irr (a : ByteArray) : ¬ ltK a a := lists_irr _
theorem ltK_asymm {a b : ByteArray} (h : ltK a b) : ¬ ltK b a := lists_asymm h
theorem ltK_trans {a b c : ByteArray} (h : ltK a b) (k : ltK b c) : ltK a c := lists_trans h k
theorem ltK_tri {a b : ByteArray} (h : ¬ ltK a b) (k : ¬ ltK b a) : a = b := by
  have := lists_tri h k
  cases a; cases b; congr; exact Array.toList_inj.1 this
instance (a b : ByteArray) : Decidable (ltK a b) := by unfold ltK; infer_instance
theorem less_ltK (a b : ByteArray) : Op.bytesLess a.toList b.toList = decide (ltK a b) := less_eq a b
def scanK (c : Nat → Bool) : Nat → Nat
  | 0 => 0
  | k + 1 => if c k then scanK c k else k + 1
theorem scanK_spec (c : Nat → Bool) : ∀ n, scanK c n ≤ n ∧ (∀ j, scanK c n ≤ j → j < n → c j = true) ∧ (scanK c n = 0 ∨ c (scanK c n - 1) = false)
  | 0 => ⟨Nat.le_refl _, fun j h1 h2 => absurd h2 (by omega), Or.inl rfl⟩
  | n + 1 => by
    obtain ⟨h1, h2, h3⟩ := scanK_spec c n
    unfold scanK
    cases hc : c n with
    | true =>
      rw [if_pos rfl]
      refine ⟨by omega, fun j hj hn => ?_, h3⟩
      rcases Nat.lt_or_ge j n with h | h
      · exact h2 j hj h
      · have : j = n := by omega
        rw [this]; exact hc
    | false =>
      rw [if_neg Bool.false_ne_true]
      exact ⟨Nat.le_refl _, fun j hj hn => absurd hn (by omega), Or.inr hc⟩
def insP (out : List RowS) (x : RowS) (p : Nat) : List RowS := out.take p ++ [x] ++ out.drop p
def insC (out : List RowS) (x : RowS) : Nat → Bool := fun j => decide (ltK x.f0 (keyR out j))
def insR (out : List RowS) (x : RowS) : List RowS := insP out x (scanK (insC out x) out.length)
theorem insP_len (out : List RowS) (x : RowS) (p : Nat) : (insP out x p).length = out.length + 1 := by
  unfold insP
  simp only [List.length_append, List.length_take, List.length_drop, List.length_singleton]
  omega
theorem wrapP (p : Nat) (h : p < 4611686018427387904) : wrap64 (((p + 1 : Nat) : Int) - 1) = (p : Int) := by unfold wrap64; omega
def ltR (a b : RowS) : Prop := ltK a.f0 b.f0
theorem insR_mem (out : List RowS) (x r : RowS) : r ∈ insR out x ↔ r = x ∨ r ∈ out := by
  unfold insR insP
  generalize scanK (insC out x) out.length = p
  rw [List.mem_append, List.mem_append, List.mem_singleton]
  constructor
  · rintro ((h | h) | h)
    · exact Or.inr (List.mem_of_mem_take h)
    · exact Or.inl h
    · exact Or.inr (List.mem_of_mem_drop h)
  · rintro (h | h)
    · exact Or.inl (Or.inr h)
    · rw [← List.take_append_drop p out, List.mem_append] at h
      rcases h with h | h
      · exact Or.inl (Or.inl h)
      · exact Or.inr h
theorem insR_sorted {out : List RowS} {x : RowS} (h : out.Pairwise ltR) (hne : ∀ y ∈ out, y.f0 ≠ x.f0) : (insR out x).Pairwise ltR := by
  obtain ⟨h1, h2, h3⟩ := scanK_spec (insC out x) out.length
  unfold insR insP
  generalize scanK (insC out x) out.length = p at h1 h2 h3
  have hd : ∀ b ∈ out.drop p, ltR x b := by
    intro b hb
    obtain ⟨j, hj, rfl⟩ := List.mem_iff_getElem.1 hb
    rw [List.length_drop] at hj
    rw [List.getElem_drop]
    have := of_decide_eq_true (h2 (p + j) (by omega) (by omega))
    rw [keyR_get (by omega)] at this
    exact this
  have ht : ∀ a ∈ out.take p, ltR a x := by
    intro a ha
    obtain ⟨j, hj, rfl⟩ := List.mem_iff_getElem.1 ha
    rw [List.length_take] at hj
    rw [List.getElem_take]
    rcases h3 with h3 | h3
    · omega
    · have hq := of_decide_eq_false h3
      rw [keyR_get (by omega)] at hq
      have hlast : ltR out[p - 1] x := by
        refine Classical.byContradiction fun hn => ?_
        exact hne out[p - 1] (List.getElem_mem _) (ltK_tri hn hq)
      rcases Nat.lt_or_ge j (p - 1) with hjl | hjl
      · exact ltK_trans (List.pairwise_iff_getElem.1 h j (p - 1) (by omega) (by omega) hjl) hlast
      · have : j = p - 1 := by omega
        subst this
        exact hlast
  rw [List.append_assoc, List.pairwise_append]
  refine ⟨h.sublist (List.take_sublist _ _), ?_, ?_⟩
  · rw [List.singleton_append, List.pairwise_cons]
    exact ⟨hd, h.sublist (List.drop_sublist _ _)⟩
  · intro a ha b hb
    rw [List.singleton_append, List.mem_cons] at hb
    rcases hb with rfl | hb
    · exact ht a ha
    · exact ltK_trans (ht a ha) (hd b hb)
theorem fold_sorted : ∀ (l acc : List RowS), acc.Pairwise ltR → l.Pairwise (fun a b => a.f0 ≠ b.f0) → (∀ y ∈ acc, ∀ x ∈ l, y.f0 ≠ x.f0) →
    (l.foldl insR acc).Pairwise ltR ∧ ∀ r, r ∈ l.foldl insR acc ↔ r ∈ acc ∨ r ∈ l
  | [], acc, h, _, _ => ⟨h, fun r => by simp⟩
  | x :: l, acc, h, hd, hn => by
    rw [List.pairwise_cons] at hd
    obtain ⟨i1, i2⟩ := fold_sorted l (insR acc x) (insR_sorted h (fun y hy => hn y hy x (List.mem_cons_self ..))) hd.2 (fun y hy z hz => by
      rw [insR_mem] at hy
      rcases hy with rfl | hy
      · exact hd.1 z hz
      · exact hn y hy z (List.mem_cons_of_mem _ hz))
    refine ⟨i1, fun r => ?_⟩
    rw [List.foldl_cons, i2, insR_mem, List.mem_cons]
    constructor
    · rintro ((h | h) | h)
      · exact Or.inr (Or.inl h)
      · exact Or.inl h
      · exact Or.inr (Or.inr h)
    · rintro (h | h | h)
      · exact Or.inl (Or.inr h)
      · exact Or.inl (Or.inl h)
      · exact Or.inr h
/-- A list in a strict order is told by what is in it. -/
theorem sorted_ext {α : Type} {lt : α → α → Prop} (asym : ∀ a b, lt a b → ¬ lt b a) : ∀ (l1 l2 : List α), l1.Pairwise lt → l2.Pairwise lt → (∀ r, r ∈ l1 ↔ r ∈ l2) → l1 = l2
  | [], l2, _, _, h => by
    cases l2 with
    | nil => rfl
    | cons y l2 => exact absurd ((h y).2 (List.mem_cons_self ..)) (by simp)
  | x :: l1, l2, h1, h2, h => by
    cases l2 with
    | nil => exact absurd ((h x).1 (List.mem_cons_self ..)) (by simp)
    | cons y l2 =>
      rw [List.pairwise_cons] at h1 h2
      have hxy : x = y := by
        rcases List.mem_cons.1 ((h x).1 (List.mem_cons_self ..)) with e | e
        · exact e
        · rcases List.mem_cons.1 ((h y).2 (List.mem_cons_self ..)) with e' | e'
          · exact e'.symm
          · exact absurd (h1.1 y e') (asym _ _ (h2.1 x e))
      subst hxy
      congr 1
      refine sorted_ext asym l1 l2 h1.2 h2.2 (fun r => ⟨fun hr => ?_, fun hr => ?_⟩)
      · rcases List.mem_cons.1 ((h r).1 (List.mem_cons_of_mem _ hr)) with e | e
        · subst e
          exact absurd (h1.1 r hr) (asym _ _ (h1.1 r hr))
        · exact e
      · rcases List.mem_cons.1 ((h r).2 (List.mem_cons_of_mem _ hr)) with e | e
        · subst e
          exact absurd (h2.1 r hr) (asym _ _ (h2.1 r hr))
        · exact e
end Go.Proofs.Ytaoflcmjmhfblaa.D
/- Plain laws: two lists in order gone through at once. -/
namespace Go.Proofs.Ytaoflcmjmhfblaa.D
open Go.RowKit Go.Proofs.YtaoflcmjmhfblaaW.PrintWords Go.Proofs.YtaoflcmjmhfblaaW.PrintLast Go.Proofs.YtaoflcmjmhfblaaW.PrintMore Go.Proofs.Ytaoflcmjmhfblaa.H Go.Shelf
set_option linter.unusedVariables false
set_option linter.unusedSimpArgs false
theorem cmpL_gt {a b : ByteArray} : 0 < cmpL a b ↔ ltK b a := by
  have := cmpL_neg a b
  have h2 := cmpL_lt (a := b) (b := a)
  unfold ltK
  rw [← h2]
  omega
section
variable {α β γ : Type} (ka : α → ByteArray) (kb : β → ByteArray) (kc : γ → ByteArray) (emit : Option α → Option β → List γ)
/-- What comes out of it. -/
structure Merged (a : List α) (b : List β) (M : List γ) : Prop where
  run : ∀ s : List γ, bothL ka kb (fun s ox oy => s ++ emit ox oy) a b s = s ++ M
  ord : M.Pairwise (fun r q => ltK (kc r) (kc q))
  mem : ∀ r, r ∈ M ↔ (∃ x ∈ a, (∀ y ∈ b, kb y ≠ ka x) ∧ r ∈ emit (some x) none) ∨ (∃ y ∈ b, (∀ x ∈ a, ka x ≠ kb y) ∧ r ∈ emit none (some y)) ∨ ∃ x ∈ a, ∃ y ∈ b, ka x = kb y ∧ r ∈ emit (some x) (some y)
variable {ka kb kc emit}
theorem pair_small {γ : Type} {lt : γ → γ → Prop} {l : List γ} (h : l.length ≤ 1) : l.Pairwise lt := by
  match l, h with
  | [], _ => exact List.Pairwise.nil
  | [x], _ => exact List.pairwise_singleton _ _
  | _ :: _ :: _, h => simp at h
theorem merge_ex (ha1 : ∀ x r, r ∈ emit (some x) none → kc r = ka x) (hb1 : ∀ y r, r ∈ emit none (some y) → kc r = kb y) (hc1 : ∀ x y r, ka x = kb y → r ∈ emit (some x) (some y) → kc r = kb y)
    (ha2 : ∀ x, (emit (some x) none).length ≤ 1) (hb2 : ∀ y, (emit none (some y)).length ≤ 1) (hc2 : ∀ x y, (emit (some x) (some y)).length ≤ 1) :
    ∀ (a : List α) (b : List β), a.Pairwise (fun x y => ltK (ka x) (ka y)) → b.Pairwise (fun x y => ltK (kb x) (kb y)) → ∃ M, Merged ka kb kc emit a b M
  | [], [], _, _ => ⟨[], fun s => by unfold bothL; simp, List.Pairwise.nil, fun r => by simp⟩
  | x :: a, [], h1, h2 => by
    rw [List.pairwise_cons] at h1
    obtain ⟨M, m1, m2, m3⟩ := merge_ex ha1 hb1 hc1 ha2 hb2 hc2 a [] h1.2 h2
    refine ⟨emit (some x) none ++ M, fun s => ?_, ?_, fun r => ?_⟩
    · unfold bothL; rw [m1, List.append_assoc]
    · rw [List.pairwise_append]
      refine ⟨pair_small (ha2 x), m2, fun r hr q hq => ?_⟩
      rw [ha1 x r hr]
      rw [m3] at hq
      rcases hq with ⟨z, hz, _, he⟩ | ⟨y, hy, _⟩ | ⟨z, hz, y, hy, _⟩
      · rw [ha1 z q he]; exact h1.1 z hz
      · cases hy
      · cases hy
    · rw [List.mem_append, m3]
      constructor
      · rintro (h | ⟨z, hz, hn, he⟩ | ⟨y, hy, _⟩ | ⟨z, hz, y, hy, _⟩)
        · exact Or.inl ⟨x, List.mem_cons_self .., fun y hy => (by cases hy), h⟩
        · exact Or.inl ⟨z, List.mem_cons_of_mem _ hz, hn, he⟩
        · cases hy
        · cases hy
      · rintro (⟨z, hz, hn, he⟩ | ⟨y, hy, _⟩ | ⟨z, hz, y, hy, _⟩)
        · rcases List.mem_cons.1 hz with rfl | hz
          · exact Or.inl he
          · exact Or.inr (Or.inl ⟨z, hz, hn, he⟩)
        · cases hy
        · cases hy
  | [], y :: b, h1, h2 => by
    rw [List.pairwise_cons] at h2
    obtain ⟨M, m1, m2, m3⟩ := merge_ex ha1 hb1 hc1 ha2 hb2 hc2 [] b h1 h2.2
    refine ⟨emit none (some y) ++ M, fun s => ?_, ?_, fun r => ?_⟩
    · unfold bothL; rw [m1, List.append_assoc]
    · rw [List.pairwise_append]
      refine ⟨pair_small (hb2 y), m2, fun r hr q hq => ?_⟩
      rw [hb1 y r hr]
      rw [m3] at hq
      rcases hq with ⟨z, hz, _⟩ | ⟨z, hz, _, he⟩ | ⟨z, hz, _⟩
      · cases hz
      · rw [hb1 z q he]; exact h2.1 z hz
      · cases hz
    · rw [List.mem_append, m3]
      constructor
      · rintro (h | ⟨z, hz, _⟩ | ⟨z, hz, hn, he⟩ | ⟨z, hz, _⟩)
        · exact Or.inr (Or.inl ⟨y, List.mem_cons_self .., fun x hx => (by cases hx), h⟩)
        · cases hz
        · exact Or.inr (Or.inl ⟨z, List.mem_cons_of_mem _ hz, hn, he⟩)
        · cases hz
      · rintro (⟨z, hz, _⟩ | ⟨z, hz, hn, he⟩ | ⟨z, hz, _⟩)
        · cases hz
        · rcases List.mem_cons.1 hz with rfl | hz
          · exact Or.inl he
          · exact Or.inr (Or.inr (Or.inl ⟨z, hz, hn, he⟩))
        · cases hz
  | x :: a, y :: b, h1, h2 => by
    have h1' := h1
    have h2' := h2
    rw [List.pairwise_cons] at h1 h2
    by_cases c1 : cmpL (ka x) (kb y) < 0
    · have hlt : ltK (ka x) (kb y) := cmpL_lt.1 c1
      obtain ⟨M, m1, m2, m3⟩ := merge_ex ha1 hb1 hc1 ha2 hb2 hc2 a (y :: b) h1.2 h2'
      have hxb : ∀ z ∈ y :: b, ltK (ka x) (kb z) := fun z hz => by
        rcases List.mem_cons.1 hz with rfl | hz
        · exact hlt
        · exact ltK_trans hlt (h2.1 z hz)
      have hxn : ∀ z ∈ y :: b, kb z ≠ ka x := fun z hz e => ltK_irr _ (by have := hxb z hz; rwa [e] at this)
      refine ⟨emit (some x) none ++ M, fun s => ?_, ?_, fun r => ?_⟩
      · conv => lhs; unfold bothL
        rw [if_pos c1, m1, List.append_assoc]
      · rw [List.pairwise_append]
        refine ⟨pair_small (ha2 x), m2, fun r hr q hq => ?_⟩
        rw [ha1 x r hr]
        rw [m3] at hq
        rcases hq with ⟨z, hz, _, he⟩ | ⟨z, hz, _, he⟩ | ⟨z, hz, w, hw, e, he⟩
        · rw [ha1 z q he]; exact h1.1 z hz
        · rw [hb1 z q he]; exact hxb z hz
        · rw [hc1 z w q e he]; exact hxb w hw
      · rw [List.mem_append, m3]
        constructor
        · rintro (h | ⟨z, hz, hn, he⟩ | ⟨z, hz, hn, he⟩ | ⟨z, hz, w, hw, e, he⟩)
          · exact Or.inl ⟨x, List.mem_cons_self .., hxn, h⟩
          · exact Or.inl ⟨z, List.mem_cons_of_mem _ hz, hn, he⟩
          · refine Or.inr (Or.inl ⟨z, hz, fun u hu => ?_, he⟩)
            rcases List.mem_cons.1 hu with rfl | hu
            · exact (hxn z hz).symm
            · exact hn u hu
          · exact Or.inr (Or.inr ⟨z, List.mem_cons_of_mem _ hz, w, hw, e, he⟩)
        · rintro (⟨z, hz, hn, he⟩ | ⟨z, hz, hn, he⟩ | ⟨z, hz, w, hw, e, he⟩)
          · rcases List.mem_cons.1 hz with rfl | hz
            · exact Or.inl he
            · exact Or.inr (Or.inl ⟨z, hz, hn, he⟩)
          · exact Or.inr (Or.inr (Or.inl ⟨z, hz, fun u hu => hn u (List.mem_cons_of_mem _ hu), he⟩))
          · rcases List.mem_cons.1 hz with rfl | hz
            · exact absurd e.symm (hxn w hw)
            · exact Or.inr (Or.inr (Or.inr ⟨z, hz, w, hw, e, he⟩))
    · by_cases c2 : 0 < cmpL (ka x) (kb y)
      · have hlt : ltK (kb y) (ka x) := cmpL_gt.1 c2
        obtain ⟨M, m1, m2, m3⟩ := merge_ex ha1 hb1 hc1 ha2 hb2 hc2 (x :: a) b h1' h2.2
        have hya : ∀ z ∈ x :: a, ltK (kb y) (ka z) := fun z hz => by
          rcases List.mem_cons.1 hz with rfl | hz
          · exact hlt
          · exact ltK_trans hlt (h1.1 z hz)
        have hyn : ∀ z ∈ x :: a, ka z ≠ kb y := fun z hz e => ltK_irr _ (by have := hya z hz; rwa [e] at this)
        refine ⟨emit none (some y) ++ M, fun s => ?_, ?_, fun r => ?_⟩
        · conv => lhs; unfold bothL
          rw [if_neg c1, if_pos c2, m1, List.append_assoc]
        · rw [List.pairwise_append]
          refine ⟨pair_small (hb2 y), m2, fun r hr q hq => ?_⟩
          rw [hb1 y r hr]
          rw [m3] at hq
          rcases hq with ⟨z, hz, _, he⟩ | ⟨z, hz, _, he⟩ | ⟨z, hz, w, hw, e, he⟩
          · rw [ha1 z q he]; exact hya z hz
          · rw [hb1 z q he]; exact h2.1 z hz
          · rw [hc1 z w q e he]; exact h2.1 w hw
        · rw [List.mem_append, m3]
          constructor
          · rintro (h | ⟨z, hz, hn, he⟩ | ⟨z, hz, hn, he⟩ | ⟨z, hz, w, hw, e, he⟩)
            · exact Or.inr (Or.inl ⟨y, List.mem_cons_self .., hyn, h⟩)
            · refine Or.inl ⟨z, hz, fun u hu => ?_, he⟩
              rcases List.mem_cons.1 hu with rfl | hu
              · exact (hyn z hz).symm
              · exact hn u hu
            · exact Or.inr (Or.inl ⟨z, List.mem_cons_of_mem _ hz, hn, he⟩)
            · exact Or.inr (Or.inr ⟨z, hz, w, List.mem_cons_of_mem _ hw, e, he⟩)
          · rintro (⟨z, hz, hn, he⟩ | ⟨z, hz, hn, he⟩ | ⟨z, hz, w, hw, e, he⟩)
            · exact Or.inr (Or.inl ⟨z, hz, fun u hu => hn u (List.mem_cons_of_mem _ hu), he⟩)
            · rcases List.mem_cons.1 hz with rfl | hz
              · exact Or.inl he
              · exact Or.inr (Or.inr (Or.inl ⟨z, hz, hn, he⟩))
            · rcases List.mem_cons.1 hw with rfl | hw
              · exact absurd e (hyn z hz)
              · exact Or.inr (Or.inr (Or.inr ⟨z, hz, w, hw, e, he⟩))
      · have heq : ka x = kb y := ltK_tri (fun h => c1 (cmpL_lt.2 h)) (fun h => c2 (cmpL_gt.2 h))
        obtain ⟨M, m1, m2, m3⟩ := merge_ex ha1 hb1 hc1 ha2 hb2 hc2 a b h1.2 h2.2
        have hxb : ∀ z ∈ b, kb z ≠ ka x := fun z hz e => ltK_irr _ (by have := h2.1 z hz; rwa [e, heq] at this)
        have hya : ∀ z ∈ a, ka z ≠ kb y := fun z hz e => ltK_irr _ (by have := h1.1 z hz; rwa [e, ← heq] at this)
        refine ⟨emit (some x) (some y) ++ M, fun s => ?_, ?_, fun r => ?_⟩
        · conv => lhs; unfold bothL
          rw [if_neg c1, if_neg c2, m1, List.append_assoc]
        · rw [List.pairwise_append]
          refine ⟨pair_small (hc2 x y), m2, fun r hr q hq => ?_⟩
          rw [hc1 x y r heq hr]
          rw [m3] at hq
          rcases hq with ⟨z, hz, _, he⟩ | ⟨z, hz, _, he⟩ | ⟨z, hz, w, hw, e, he⟩
          · rw [ha1 z q he, ← heq]; exact h1.1 z hz
          · rw [hb1 z q he]; exact h2.1 z hz
          · rw [hc1 z w q e he]; exact h2.1 w hw
        · rw [List.mem_append, m3]
          constructor
          · rintro (h | ⟨z, hz, hn, he⟩ | ⟨z, hz, hn, he⟩ | ⟨z, hz, w, hw, e, he⟩)
            · exact Or.inr (Or.inr ⟨x, List.mem_cons_self .., y, List.mem_cons_self .., heq, h⟩)
            · refine Or.inl ⟨z, List.mem_cons_of_mem _ hz, fun u hu => ?_, he⟩
              rcases List.mem_cons.1 hu with rfl | hu
              · exact (hya z hz).symm
              · exact hn u hu
            · refine Or.inr (Or.inl ⟨z, List.mem_cons_of_mem _ hz, fun u hu => ?_, he⟩)
              rcases List.mem_cons.1 hu with rfl | hu
              · exact (hxb z hz).symm
              · exact hn u hu
            · exact Or.inr (Or.inr ⟨z, List.mem_cons_of_mem _ hz, w, List.mem_cons_of_mem _ hw, e, he⟩)
          · rintro (⟨z, hz, hn, he⟩ | ⟨z, hz, hn, he⟩ | ⟨z, hz, w, hw, e, he⟩)
            · rcases List.mem_cons.1 hz with rfl | hz
              · exact absurd heq.symm (hn y (List.mem_cons_self ..))
              · exact Or.inr (Or.inl ⟨z, hz, fun u hu => hn u (List.mem_cons_of_mem _ hu), he⟩)
            · rcases List.mem_cons.1 hz with rfl | hz
              · exact absurd heq (hn x (List.mem_cons_self ..))
              · exact Or.inr (Or.inr (Or.inl ⟨z, hz, fun u hu => hn u (List.mem_cons_of_mem _ hu), he⟩))
            · rcases List.mem_cons.1 hz with rfl | hz
              · rcases List.mem_cons.1 hw with rfl | hw
                · exact Or.inl he
                · exact absurd e.symm (hxb w hw)
              · rcases List.mem_cons.1 hw with rfl | hw
                · exact absurd e (hya z hz)
                · exact Or.inr (Or.inr (Or.inr ⟨z, hz, w, hw, e, he⟩))
  termination_by a b => a.length + b.length
end
/-- Rows that may be are in order. -/
theorem mayR_sorted {l : List RowS} (h : mayR l = true) : l.Pairwise ltR := by
  rw [List.pairwise_iff_getElem]
  intro i j hi hj hij
  have := mayR_lt' h hij hj
  rw [cmpL_lt, keyR_get hi, keyR_get hj] at this
  exact this
theorem keyC_get {l : List ChgS} {i : Nat} (hi : i < l.length) : keyC l i = l[i].f0 := by
  unfold keyC; rw [List.getD_eq_getElem?_getD, List.getElem?_eq_getElem hi]; rfl
theorem rising_step {n : Nat} {K : Nat → ByteArray} {V : Nat → Nat} (h : risingI n K V = true) (i : Nat) (hi : i + 1 < n) : ltK (K i) (K (i + 1)) := by
  unfold risingI at h
  rw [List.all_eq_true] at h
  have := h (i + 1) (List.mem_range.2 hi)
  simp only [okAt, Bool.and_eq_true, Bool.or_eq_true, Nat.add_sub_cancel] at this
  rcases this.1.2 with h2 | h2
  · simp at h2
  · rw [less_ltK] at h2
    exact of_decide_eq_true h2
theorem rising_lt {n : Nat} {K : Nat → ByteArray} {V : Nat → Nat} (h : risingI n K V = true) : ∀ (d i : Nat), i + d + 1 < n → ltK (K i) (K (i + d + 1))
  | 0, i, hi => rising_step h i hi
  | d + 1, i, hi => ltK_trans (rising_lt h d i (by omega)) (rising_step h (i + d + 1) (by omega))
theorem mayC_sorted {l : List ChgS} (h : mayC l = true) : l.Pairwise (fun a b => ltK a.f0 b.f0) := by
  unfold mayC at h
  rw [Bool.and_eq_true] at h
  rw [List.pairwise_iff_getElem]
  intro i j hi hj hij
  have := rising_lt h.2 (j - i - 1) i (by omega)
  rw [show i + (j - i - 1) + 1 = j by omega, keyC_get hi, keyC_get hj] at this
  exact this
def emitA : Option RowS → Option ChgS → List RowS
  | some x, none => [⟨x.f0, x.f1⟩]
  | none, none => []
  | _, some y => if y.f2 then [] else [⟨y.f0, y.f1⟩]
theorem stepA_emit : stepA = fun s ox oy => s ++ emitA ox oy := by
  funext s ox oy
  cases ox <;> cases oy <;> simp only [stepA, emitA, List.append_nil] <;> split <;> simp
def emitB : Option RowS → Option RowS → List ChgS
  | some x, none => [⟨x.f0, [], true⟩]
  | none, none => []
  | none, some y => [⟨y.f0, y.f1, false⟩]
  | some x, some y => if sameB x.f1 y.f1 then [] else [⟨y.f0, y.f1, false⟩]
theorem stepB_emit : stepB = fun s ox oy => s ++ emitB ox oy := by
  funext s ox oy
  cases ox <;> cases oy <;> simp only [stepB, emitB, List.append_nil]
  split <;> simp
/-- What Apply answers. -/
theorem apply_spec {a : List RowS} {l : List ChgS} (ha : mayR a = true) (hl : mayC l = true) :
    (batch_ApplyL a l).Pairwise ltR ∧ ∀ r, r ∈ batch_ApplyL a l ↔ (r ∈ a ∧ ∀ c ∈ l, c.f0 ≠ r.f0) ∨ ∃ c ∈ l, c.f2 = false ∧ r = ⟨c.f0, c.f1⟩ := by
  obtain ⟨M, m1, m2, m3⟩ := merge_ex (ka := fun x : RowS => x.f0) (kb := fun x : ChgS => x.f0) (kc := fun x : RowS => x.f0) (emit := emitA)
    (fun x r hr => by simp only [emitA, List.mem_singleton] at hr; rw [hr])
    (fun y r hr => by simp only [emitA] at hr; split at hr <;> simp at hr; rw [hr])
    (fun x y r e hr => by simp only [emitA] at hr; split at hr <;> simp at hr; rw [hr])
    (fun x => by simp [emitA]) (fun y => by simp only [emitA]; split <;> simp) (fun x y => by simp only [emitA]; split <;> simp) a l (mayR_sorted ha) (mayC_sorted hl)
  have hM : batch_ApplyL a l = M := by
    unfold batch_ApplyL
    rw [stepA_emit, m1, List.nil_append]
  rw [hM]
  refine ⟨m2, fun r => ?_⟩
  rw [m3]
  constructor
  · rintro (⟨x, hx, hn, he⟩ | ⟨y, hy, hn, he⟩ | ⟨x, hx, y, hy, e, he⟩)
    · simp only [emitA, List.mem_singleton] at he
      subst he
      exact Or.inl ⟨hx, hn⟩
    · simp only [emitA] at he
      cases hf : y.f2 with
      | true => rw [hf] at he; simp at he
      | false => rw [hf] at he; simp at he; exact Or.inr ⟨y, hy, hf, he⟩
    · simp only [emitA] at he
      cases hf : y.f2 with
      | true => rw [hf] at he; simp at he
      | false => rw [hf] at he; simp at he; exact Or.inr ⟨y, hy, hf, he⟩
  · rintro (⟨hx, hn⟩ | ⟨c, hc, hf, rfl⟩)
    · exact Or.inl ⟨r, hx, hn, by simp [emitA]⟩
    · by_cases hex : ∃ x ∈ a, x.f0 = c.f0
      · obtain ⟨x, hx, e⟩ := hex
        exact Or.inr (Or.inr ⟨x, hx, c, hc, e, by simp [emitA, hf]⟩)
      · exact Or.inr (Or.inl ⟨c, hc, fun x hx e => hex ⟨x, hx, e⟩, by simp [emitA, hf]⟩)
/-- What Between answers. -/
theorem between_spec {a b : List RowS} (ha : mayR a = true) (hb : mayR b = true) :
    (batch_BetweenL a b).Pairwise (fun x y => ltK x.f0 y.f0) ∧ ∀ r, r ∈ batch_BetweenL a b ↔ (∃ x ∈ a, (∀ y ∈ b, y.f0 ≠ x.f0) ∧ r = ⟨x.f0, [], true⟩) ∨ (∃ y ∈ b, (∀ x ∈ a, x.f0 = y.f0 → sameB x.f1 y.f1 = false) ∧ r = ⟨y.f0, y.f1, false⟩) := by
  obtain ⟨M, m1, m2, m3⟩ := merge_ex (ka := fun x : RowS => x.f0) (kb := fun x : RowS => x.f0) (kc := fun x : ChgS => x.f0) (emit := emitB)
    (fun x r hr => by simp only [emitB, List.mem_singleton] at hr; rw [hr])
    (fun y r hr => by simp only [emitB, List.mem_singleton] at hr; rw [hr])
    (fun x y r e hr => by simp only [emitB] at hr; split at hr <;> simp at hr; rw [hr])
    (fun x => by simp [emitB]) (fun y => by simp [emitB]) (fun x y => by simp only [emitB]; split <;> simp) a b (mayR_sorted ha) (mayR_sorted hb)
  have hM : batch_BetweenL a b = M := by
    unfold batch_BetweenL
    rw [stepB_emit, m1, List.nil_append]
  rw [hM]
  refine ⟨m2, fun r => ?_⟩
  rw [m3]
  have huniq : ∀ x ∈ a, ∀ z ∈ a, x.f0 = z.f0 → x = z := by
    intro x hx z hz e
    obtain ⟨i, hi, rfl⟩ := List.mem_iff_getElem.1 hx
    obtain ⟨j, hj, rfl⟩ := List.mem_iff_getElem.1 hz
    rcases Nat.lt_trichotomy i j with h | h | h
    · have := List.pairwise_iff_getElem.1 (mayR_sorted ha) i j hi hj h
      unfold ltR at this
      rw [e] at this
      exact absurd this (ltK_irr _)
    · subst h; rfl
    · have := List.pairwise_iff_getElem.1 (mayR_sorted ha) j i hj hi h
      unfold ltR at this
      rw [e] at this
      exact absurd this (ltK_irr _)
  constructor
  · rintro (⟨x, hx, hn, he⟩ | ⟨y, hy, hn, he⟩ | ⟨x, hx, y, hy, e, he⟩)
    · simp only [emitB, List.mem_singleton] at he
      exact Or.inl ⟨x, hx, hn, he⟩
    · simp only [emitB, List.mem_singleton] at he
      exact Or.inr ⟨y, hy, fun x hx e => absurd e (hn x hx), he⟩
    · simp only [emitB] at he
      cases hf : sameB x.f1 y.f1 with
      | true => rw [hf] at he; simp at he
      | false =>
        rw [hf] at he
        simp at he
        exact Or.inr ⟨y, hy, fun z hz e2 => by rw [huniq z hz x hx (e2.trans e.symm)]; exact hf, he⟩
  · rintro (⟨x, hx, hn, he⟩ | ⟨y, hy, hn, he⟩)
    · exact Or.inl ⟨x, hx, hn, by simp [emitB, he]⟩
    · by_cases hex : ∃ x ∈ a, x.f0 = y.f0
      · obtain ⟨x, hx, e⟩ := hex
        exact Or.inr (Or.inr ⟨x, hx, y, hy, e, by simp [emitB, hn x hx e, he]⟩)
      · exact Or.inr (Or.inl ⟨y, hy, fun x hx e => hex ⟨x, hx, e⟩, by simp [emitB, he]⟩)
end Go.Proofs.Ytaoflcmjmhfblaa.D
/- Plain laws: texts that are equal; elements of lists. -/
namespace Go.Proofs.Ytaoflcmjmhfblaa.D
open Go.RowKit Go.Proofs.YtaoflcmjmhfblaaW.PrintWords Go.Proofs.YtaoflcmjmhfblaaW.PrintLast Go.Proofs.YtaoflcmjmhfblaaW.PrintMore Go.Proofs.Ytaoflcmjmhfblaa.H Go.Shelf
set_option linter.unusedVariables false
set_option linter.unusedSimpArgs false
theorem bytes_ext {a b : ByteArray} (h : a.data.toList = b.data.toList) : a = b := by
  cases a; cases b; congr; exact Array.toList_inj.1 h
theorem keq (a b : ByteArray) : (a.toList == b.toList) = decide (a = b) := by
  rw [eq_eq]
  by_cases h : a = b
  · subst h; simp
  · rw [decide_eq_false h, decide_eq_false (fun e => h (bytes_ext e))]
theorem keq' (a b : ByteArray) : (a.toList = b.toList) ↔ a = b := by
  constructor
  · intro h
    have := keq a b
    rw [beq_iff_eq.2 h] at this
    exact of_decide_eq_true this.symm
  · rintro rfl; rfl
theorem getD_at {α : Type} (l : List α) (z : α) (i : Nat) (h : i < l.length) : l.getD i z = l[i] := by
  rw [List.getD_eq_getElem?_getD, List.getElem?_eq_getElem h]; rfl
theorem drop_at {α : Type} (l : List α) (z : α) (i : Nat) (h : i < l.length) : l.drop i = l.getD i z :: l.drop (i + 1) := by
  rw [getD_at l z i h, List.drop_eq_getElem_cons h]
end Go.Proofs.Ytaoflcmjmhfblaa.D
/- Plain laws: a row by its key; rows that are the same. -/
namespace Go.Proofs.Ytaoflcmjmhfblaa.D
open Go.RowKit Go.Proofs.YtaoflcmjmhfblaaW.PrintWords Go.Proofs.YtaoflcmjmhfblaaW.PrintLast Go.Proofs.YtaoflcmjmhfblaaW.PrintMore Go.Proofs.Ytaoflcmjmhfblaa.H Go.Shelf
set_option linter.unusedVariables false
set_option linter.unusedSimpArgs false
def atK (k : ByteArray) (x : RowS) : Bool := decide (x.f0 = k)
theorem idx_cases (l : List RowS) (k : ByteArray) : (idxI (atK k) l = -1 ∧ (∀ x ∈ l, x.f0 ≠ k) ∧ findR l k = none) ∨ ∃ (i : Nat) (hi : i < l.length), idxI (atK k) l = (i : Int) ∧ l[i].f0 = k ∧ findR l k = some l[i] := by
  rcases find_idx (atK k) l with ⟨h1, h2⟩ | ⟨i, x, hi, hx, h1, h2⟩
  · left
    refine ⟨h2, fun x hx e => ?_, h1⟩
    have := List.find?_eq_none.1 h1 x hx
    exact this (decide_eq_true e)
  · right
    have e : l[i] = x := by rw [List.getElem?_eq_getElem hi] at hx; exact Option.some.inj hx
    refine ⟨i, hi, h2, ?_, by rw [e]; exact h1⟩
    have := List.find?_some h1
    rw [e]
    exact of_decide_eq_true this
theorem findR_mem {l : List RowS} (hl : mayR l = true) (k : ByteArray) : (findR l k = none ∧ ∀ x ∈ l, x.f0 ≠ k) ∨ ∃ x ∈ l, x.f0 = k ∧ findR l k = some x ∧ ∀ z ∈ l, z.f0 = k → z = x := by
  rcases idx_cases l k with ⟨_, h1, h2⟩ | ⟨i, hi, _, h1, h2⟩
  · exact Or.inl ⟨h2, h1⟩
  · refine Or.inr ⟨l[i], List.getElem_mem hi, h1, h2, fun z hz e => ?_⟩
    obtain ⟨j, hj, rfl⟩ := List.mem_iff_getElem.1 hz
    rcases Nat.lt_trichotomy i j with h | h | h
    · have := List.pairwise_iff_getElem.1 (mayR_sorted hl) i j hi hj h
      unfold ltR at this
      rw [h1, e] at this
      exact absurd this (ltK_irr _)
    · subst h; rfl
    · have := List.pairwise_iff_getElem.1 (mayR_sorted hl) j i hj hi h
      unfold ltR at this
      rw [h1, e] at this
      exact absurd this (ltK_irr _)
def betweenL (a b : List RowS) : List ChgS × Int := if mayR a && mayR b then (batch_BetweenL a b, 0) else ([], 2)
theorem same_refl (l : List Int) : cohortref00_Same.f l l = some true := by unfold cohortref00_Same.f; rw [beq_self_eq_true]
theorem rows_loop (l : List RowS) (hn : l.length < 4611686018427387904) : ∀ (d i : Nat), i + d = l.length → Ev (fun k => cohortref00_Rows.l0 k l l (i : Int)) true
  | 0, i, hi => by
    refine Ev.step (g := fun _ => some true) (fun k => ?_) (Ev.val _)
    conv => lhs; unfold cohortref00_Rows.l0
    rw [if_neg (by omega)]
  | d + 1, i, hi => by
    refine Ev.step (fun k => ?_) (rows_loop l hn d (i + 1) (by omega))
    conv => lhs; unfold cohortref00_Rows.l0
    rw [if_pos (by omega), if_pos (by omega), if_pos (by omega), if_pos rfl, same_refl, Option.bind_some, if_pos rfl, wrapN i (by omega)]
theorem rows_refl (l : List RowS) (hn : l.length < 4611686018427387904) : Ev (fun k => cohortref00_Rows.f k l l) true := by
  refine Ev.same (fun k => ?_) (rows_loop l hn l.length 0 (by omega))
  unfold cohortref00_Rows.f
  rw [if_pos rfl]
  rfl
end Go.Proofs.Ytaoflcmjmhfblaa.D
/- Plain laws: when changes may be; the way between two tables. -/
namespace Go.Proofs.Ytaoflcmjmhfblaa.D
open Go.RowKit Go.Proofs.YtaoflcmjmhfblaaW.PrintWords Go.Proofs.YtaoflcmjmhfblaaW.PrintLast Go.Proofs.YtaoflcmjmhfblaaW.PrintMore Go.Proofs.Ytaoflcmjmhfblaa.H Go.Shelf
set_option linter.unusedVariables false
set_option linter.unusedSimpArgs false
def keyOk (k : ByteArray) : Prop := k.toList.isEmpty = false ∧ k.size ≤ 16
theorem rising_key {n : Nat} {K : Nat → ByteArray} {V : Nat → Nat} (h : risingI n K V = true) (i : Nat) (hi : i < n) : keyOk (K i) := by
  unfold risingI at h
  rw [List.all_eq_true] at h
  have := h i (List.mem_range.2 hi)
  simp only [okAt, Bool.and_eq_true, decide_eq_true_eq, Bool.not_eq_true'] at this
  exact ⟨this.1.1.1, this.1.1.2⟩
theorem mayR_key {l : List RowS} (h : mayR l = true) : ∀ x ∈ l, keyOk x.f0 := by
  intro x hx
  obtain ⟨i, hi, rfl⟩ := List.mem_iff_getElem.1 hx
  have := rising_key h i hi
  rwa [keyR_get hi] at this
structure ChgOk (c : ChgS) : Prop where
  key : keyOk c.f0
  len : c.f1.length ≤ 524288
  bad : badC c = false
theorem mayC_iff (l : List ChgS) : mayC l = true ↔ (∀ c ∈ l, ChgOk c) ∧ l.Pairwise (fun a b => ltK a.f0 b.f0) := by
  constructor
  · intro h
    refine ⟨fun c hc => ?_, mayC_sorted h⟩
    have hl := mayC_len h c hc
    unfold mayC at h
    rw [Bool.and_eq_true] at h
    obtain ⟨i, hi, rfl⟩ := List.mem_iff_getElem.1 hc
    have hk := rising_key h.2 i hi
    rw [keyC_get hi] at hk
    refine ⟨hk, hl, ?_⟩
    have hb : l.any badC = false := by simpa using h.1
    rw [List.any_eq_false] at hb
    simpa using hb _ (List.getElem_mem hi)
  · rintro ⟨h1, h2⟩
    unfold mayC
    rw [Bool.and_eq_true]
    constructor
    · have : l.any badC = false := by
        rw [List.any_eq_false]
        intro c hc
        rw [(h1 c hc).bad]
        exact Bool.false_ne_true
      rw [this]; rfl
    · refine rising_true (fun i hi => ?_)
      have hc := h1 l[i] (List.getElem_mem hi)
      have e1 : (keyC l i).toList.isEmpty = false := by rw [keyC_get hi]; exact hc.key.1
      have e2 : ((keyC l i).size : Int) ≤ 16 := by rw [keyC_get hi]; have := hc.key.2; omega
      have e4 : (lenC l i : Int) ≤ 524288 := by
        have := hc.len
        unfold lenC
        rw [getD_at l _ i hi]
        omega
      refine okAt_t e1 e2 ?_ e4
      rcases Nat.eq_zero_or_pos i with h | h
      · exact Or.inl h
      · right
        rw [keyC_get hi, keyC_get (by omega), less_ltK]
        exact decide_eq_true (List.pairwise_iff_getElem.1 h2 (i - 1) i (by omega) hi (by omega))
theorem sameB_self (l : List Int) : sameB l l = true := by unfold sameB; rw [beq_self_eq_true]
theorem sameB_eq {a b : List Int} (ha : Bytes a) (hb : Bytes b) (h : sameB a b = true) : a = b := by
  unfold sameB at h
  rw [same_strs ha hb] at h
  exact of_decide_eq_true h
theorem row_uniq {l : List RowS} (h : mayR l = true) {x z : RowS} (hx : x ∈ l) (hz : z ∈ l) (e : x.f0 = z.f0) : x = z := by
  rcases findR_mem h z.f0 with ⟨_, h2⟩ | ⟨y, hy, e2, _, h2⟩
  · exact absurd e (h2 x hx)
  · rw [h2 x hx e, h2 z hz rfl]
theorem between_may {a b : List RowS} (ha : mayR a = true) (hb : mayR b = true) : mayC (batch_BetweenL a b) = true := by
  obtain ⟨s1, s2⟩ := between_spec ha hb
  rw [mayC_iff]
  refine ⟨fun c hc => ?_, s1⟩
  rcases (s2 c).1 hc with ⟨x, hx, _, rfl⟩ | ⟨y, hy, _, rfl⟩
  · exact ⟨mayR_key ha x hx, by simp, rfl⟩
  · exact ⟨mayR_key hb y hy, mayR_len hb y hy, rfl⟩
theorem apply_between {a b : List RowS} (ha : mayR a = true) (hb : mayR b = true) (hA : ∀ x ∈ a, Bytes x.f1) (hB : ∀ x ∈ b, Bytes x.f1) : batch_ApplyL a (batch_BetweenL a b) = b := by
  obtain ⟨b1, b2⟩ := between_spec ha hb
  obtain ⟨a1, a2⟩ := apply_spec ha (between_may ha hb)
  refine sorted_ext (lt := ltR) (fun _ _ h => ltK_asymm h) _ _ a1 (mayR_sorted hb) (fun r => ?_)
  rw [a2]
  constructor
  · rintro (⟨hr, hn⟩ | ⟨c, hc, hf, rfl⟩)
    · by_cases hex : ∃ y ∈ b, y.f0 = r.f0
      · obtain ⟨y, hy, e⟩ := hex
        cases hs : sameB r.f1 y.f1 with
        | true =>
          have he := sameB_eq (hA r hr) (hB y hy) hs
          have : r = y := by
            cases r; cases y
            simp only at e he
            subst e; subst he; rfl
          rw [this]; exact hy
        | false =>
          exact absurd e (hn ⟨y.f0, y.f1, false⟩ ((b2 _).2 (Or.inr ⟨y, hy, fun x hx e2 => by rw [row_uniq ha hx hr (e2.trans e)]; exact hs, rfl⟩)))
      · exact absurd rfl (hn ⟨r.f0, [], true⟩ ((b2 _).2 (Or.inl ⟨r, hr, fun y hy e => hex ⟨y, hy, e⟩, rfl⟩)))
    · rcases (b2 c).1 hc with ⟨x, hx, _, rfl⟩ | ⟨y, hy, _, rfl⟩
      · cases hf
      · exact hy
  · intro hr
    by_cases hall : ∀ x ∈ a, x.f0 = r.f0 → sameB x.f1 r.f1 = false
    · exact Or.inr ⟨⟨r.f0, r.f1, false⟩, (b2 _).2 (Or.inr ⟨r, hr, hall, rfl⟩), rfl, rfl⟩
    · left
      have hex : ∃ x ∈ a, x.f0 = r.f0 ∧ sameB x.f1 r.f1 = true := by
        refine Classical.byContradiction fun hno => hall (fun x hx e => ?_)
        cases hs : sameB x.f1 r.f1 with
        | false => rfl
        | true => exact absurd ⟨x, hx, e, hs⟩ hno
      obtain ⟨x, hx, e, hs⟩ := hex
      have he := sameB_eq (hA x hx) (hB r hr) hs
      have hxr : x = r := by
        cases x; cases r
        simp only at e he
        subst e; subst he; rfl
      rw [hxr] at hx
      refine ⟨hx, fun c hc e2 => ?_⟩
      rcases (b2 c).1 hc with ⟨z, hz, hn, rfl⟩ | ⟨y, hy, hn, rfl⟩
      · exact hn r hr e2.symm
      · have : y = r := row_uniq hb hy hr e2
        subst this
        have := hn y hx rfl
        rw [sameB_self] at this
        cases this
theorem between_self {b : List RowS} (hb : mayR b = true) : batch_BetweenL b b = [] := by
  obtain ⟨b1, b2⟩ := between_spec hb hb
  rw [List.eq_nil_iff_forall_not_mem]
  intro c hc
  rcases (b2 c).1 hc with ⟨x, hx, hn, _⟩ | ⟨y, hy, hn, _⟩
  · exact hn x hx rfl
  · have := hn y hy rfl
    rw [sameB_self] at this
    cases this
theorem bothL_len {α β γ : Type} {ka : α → ByteArray} {kb : β → ByteArray} {step : List γ → Option α → Option β → List γ} (hs : ∀ s x y, (step s x y).length ≤ s.length + 1) : ∀ (a : List α) (b : List β) (s : List γ), (bothL ka kb step a b s).length ≤ s.length + a.length + b.length
  | [], [], s => by unfold bothL; simp
  | x :: a, [], s => by
    unfold bothL
    have := bothL_len hs (ka := ka) (kb := kb) a [] (step s (some x) none)
    have := hs s (some x) none
    simp only [List.length_cons, List.length_nil] at *
    omega
  | [], y :: b, s => by
    unfold bothL
    have := bothL_len hs (ka := ka) (kb := kb) [] b (step s none (some y))
    have := hs s none (some y)
    simp only [List.length_cons, List.length_nil] at *
    omega
  | x :: a, y :: b, s => by
    unfold bothL
    split
    · have := bothL_len hs (ka := ka) (kb := kb) a (y :: b) (step s (some x) none)
      have := hs s (some x) none
      simp only [List.length_cons] at *
      omega
    · split
      · have := bothL_len hs (ka := ka) (kb := kb) (x :: a) b (step s none (some y))
        have := hs s none (some y)
        simp only [List.length_cons] at *
        omega
      · have := bothL_len hs (ka := ka) (kb := kb) a b (step s (some x) (some y))
        have := hs s (some x) (some y)
        simp only [List.length_cons] at *
        omega
  termination_by a b => a.length + b.length
theorem between_len (a b : List RowS) : (batch_BetweenL a b).length ≤ a.length + b.length := by
  have := bothL_len (ka := fun x : RowS => x.f0) (kb := fun x : RowS => x.f0) (step := stepB) (fun s x y => by cases x <;> cases y <;> simp only [stepB] <;> (try split) <;> simp) a b []
  simpa [batch_BetweenL] using this
end Go.Proofs.Ytaoflcmjmhfblaa.D
/- Plain laws: what is put is got, and what is got is put as the same bytes. -/
namespace Go.Proofs.Ytaoflcmjmhfblaa.D
open Go.RowKit Go.Proofs.YtaoflcmjmhfblaaW.PrintWords Go.Proofs.YtaoflcmjmhfblaaW.PrintLast Go.Proofs.YtaoflcmjmhfblaaW.PrintMore Go.Proofs.Ytaoflcmjmhfblaa.H Go.Shelf
set_option linter.unusedVariables false
set_option linter.unusedSimpArgs false
theorem str_bytes (s : ByteArray) : strOfNums (bytesOf s) = s := by
  refine bytes_ext ?_
  unfold strOfNums bytesOf
  simp only [List.map_map, List.toList_toArray]
  rw [List.map_congr_left (g := id)]
  · simp
  · intro b hb
    simp only [Function.comp, id, Int.toNat_natCast]
    exact UInt8.ofNat_toNat
theorem bytes_str {l : List Int} (h : Bytes l) : bytesOf (strOfNums l) = l := by
  unfold strOfNums bytesOf
  simp only [List.map_map, List.toList_toArray]
  rw [List.map_congr_left (g := id)]
  · simp
  · intro x hx
    obtain ⟨h0, h1⟩ := h x hx
    simp only [Function.comp, id]
    rw [UInt8.toNat_ofNat']
    omega
theorem size_str (l : List Int) : (strOfNums l).size = l.length := by
  unfold strOfNums
  simp [ByteArray.size]
theorem wrap_u8 {n : Int} (h0 : 0 ≤ n) (h1 : n ≤ 255) : IntKind.u8.wrap n = n := by rw [IntKind.wrap_u8]; omega
theorem val1 (a : Int) : valLE [a] = a := by simp [valLE]
theorem countL_small {n : Nat} (h : (n : Int) < 4294967296) : countL n = Go.Proofs.Ytaoflcmjmhfblaa.H.bytesLE (n : Int) 4 := by
  unfold countL
  have : putOk (n : Int) 4 = true := by
    unfold putOk
    rw [Bool.and_eq_true]
    refine ⟨by decide, decide_eq_true ?_⟩
    have e : (256 : Int) ^ (4 : Int).toNat = 4294967296 := by decide
    rw [e]; exact h
  rw [if_pos this]
theorem countL_len4 {n : Nat} (h : (n : Int) < 4294967296) : (countL n).length = 4 := by rw [countL_small h, Go.Proofs.Ytaoflcmjmhfblaa.H.bytesLE_length]
theorem countL_val {n : Nat} (h : (n : Int) < 4294967296) : valLE (countL n) = (n : Int) := by
  rw [countL_small h]
  refine valLE_bytes _ (by omega) 4 ?_
  have e : (256 : Int) ^ 4 = 4294967296 := by decide
  rw [e]; exact h
theorem four {l : List Int} (h : l.length = 4) : ∃ a b c d, l = [a, b, c, d] := by
  match l, h with
  | [a, b, c, d], _ => exact ⟨a, b, c, d, rfl⟩
theorem bytes_val {l : List Int} (hB : Bytes l) (h : l.length = 4) : Go.Proofs.Ytaoflcmjmhfblaa.H.bytesLE (valLE l) 4 = l := by
  obtain ⟨a, b, c, d, rfl⟩ := four h
  have ha := hB a (by simp)
  have hb := hB b (by simp)
  have hc := hB c (by simp)
  have hd := hB d (by simp)
  have hv : valLE [a, b, c, d] = a + 256 * (b + 256 * (c + 256 * d)) := by simp [valLE]
  rw [hv]
  have e : Go.Proofs.Ytaoflcmjmhfblaa.H.bytesLE (a + 256 * (b + 256 * (c + 256 * d))) 4 = [(a + 256 * (b + 256 * (c + 256 * d))) / 1 % 256, (a + 256 * (b + 256 * (c + 256 * d))) / 256 % 256, (a + 256 * (b + 256 * (c + 256 * d))) / 65536 % 256, (a + 256 * (b + 256 * (c + 256 * d))) / 16777216 % 256] := by
    simp [Go.Proofs.Ytaoflcmjmhfblaa.H.bytesLE, List.range, List.range.loop]
  rw [e]
  congr 1
  · omega
  congr 1
  · omega
  congr 1
  · omega
  congr 1
  omega
theorem chgR_core_t {a : Int} {kb t : List Int} (ha : a = (kb.length : Int)) : chgR (a :: (kb ++ (1 :: t))) = .ok (⟨strOfNums kb, [], true⟩, t) := by
  obtain ⟨r1, r2, r3, r4, n, g, m, e1, en, e2, eg, e3, em, e4, eo⟩ := chgR_P (a :: (kb ++ (1 :: t)))
  rw [eo]
  have e1' : r1 = kb ++ (1 :: t) := by rw [← e1]; rfl
  have en' : n = kb.length := by rw [← en]; show (valLE [a]).toNat = _; rw [val1, ha]; rfl
  have e2' : r2 = 1 :: t := by rw [← e2, e1', en', List.drop_left]
  have eg' : g = 1 := by rw [← eg, e2']; exact val1 1
  have e3' : r3 = t := by rw [← e3, e2']; rfl
  have ek : r1.take n = kb := by rw [e1', en', List.take_left]
  clear eo e1 en e2 eg e3 em e4
  unfold chgP
  rw [if_neg (by simp), if_neg (by rw [e1', en', List.length_append]; omega), if_neg (by rw [e2']; simp), if_neg (by omega), if_pos eg', ek, e3']
theorem chgR_core_f {a : Int} {kb C4 v t : List Int} (ha : a = (kb.length : Int)) (hcl : C4.length = 4) (hcv : valLE C4 = (v.length : Int)) (hv : v.length ≤ 524288) : chgR (a :: (kb ++ (0 :: (C4 ++ (v ++ t))))) = .ok (⟨strOfNums kb, v, false⟩, t) := by
  obtain ⟨r1, r2, r3, r4, n, g, m, e1, en, e2, eg, e3, em, e4, eo⟩ := chgR_P (a :: (kb ++ (0 :: (C4 ++ (v ++ t)))))
  rw [eo]
  have e1' : r1 = kb ++ (0 :: (C4 ++ (v ++ t))) := by rw [← e1]; rfl
  have en' : n = kb.length := by rw [← en]; show (valLE [a]).toNat = _; rw [val1, ha]; rfl
  have e2' : r2 = 0 :: (C4 ++ (v ++ t)) := by rw [← e2, e1', en', List.drop_left]
  have eg' : g = 0 := by rw [← eg, e2']; exact val1 0
  have e3' : r3 = C4 ++ (v ++ t) := by rw [← e3, e2']; rfl
  have em' : m = (v.length : Int) := by rw [← em, e3', List.take_left' hcl, hcv]
  have e4' : r4 = v ++ t := by rw [← e4, e3', List.drop_left' hcl]
  have ek : r1.take n = kb := by rw [e1', en', List.take_left]
  clear eo e1 en e2 eg e3 em e4
  unfold chgP
  rw [if_neg (by simp), if_neg (by rw [e1', en', List.length_append]; omega), if_neg (by rw [e2']; simp), if_neg (by omega), if_neg (by omega), if_neg (by rw [e3', List.length_append, hcl]; omega), if_neg (by rw [em']; omega), em', Int.toNat_natCast, if_neg (by rw [e4', List.length_append]; omega), ek, e4', List.take_left, List.drop_left]
theorem app_t (q : Int) (b t : List Int) : ((q :: b) ++ [1]) ++ t = q :: (b ++ (1 :: t)) := by simp
theorem app_f (q : Int) (b c v t : List Int) : ((q :: b) ++ (0 :: c ++ v)) ++ t = q :: (b ++ (0 :: (c ++ (v ++ t)))) := by simp
theorem chgR_chgB {x : ChgS} (hx : ChgOk x) (hB : Bytes x.f1) (t : List Int) : chgR (chgB x ++ t) = .ok (x, t) := by
  have hs := hx.key.2
  have hq : IntKind.u8.wrap (x.f0.size : Int) = ((bytesOf x.f0).length : Int) := by rw [bytesOf_length]; exact wrap_u8 (by omega) (by omega)
  cases hf : x.f2 with
  | true =>
    have hnil : x.f1 = [] := by
      have := hx.bad
      unfold badC at this
      rw [hf, Bool.true_and] at this
      have := of_decide_eq_false this
      exact List.eq_nil_of_length_eq_zero (by omega)
    refine (congrArg (fun l => chgR (l ++ t)) (chgB_eqt hf)).trans ((congrArg chgR (app_t _ _ t)).trans ((chgR_core_t hq).trans ?_))
    rw [str_bytes]
    cases x
    simp only at hf hnil ⊢
    subst hf; subst hnil; rfl
  | false =>
    have hn4 : ((x.f1.length : Nat) : Int) < 4294967296 := by have := hx.len; omega
    refine (congrArg (fun l => chgR (l ++ t)) (chgB_eqf hf)).trans ((congrArg chgR (app_f _ _ _ _ t)).trans ((chgR_core_f hq (countL_len4 hn4) (countL_val hn4) hx.len).trans ?_))
    rw [str_bytes]
    cases x
    simp only at hf ⊢
    subst hf; rfl
/-- What is read has just these bytes. -/
theorem chgR_inv {rest r : List Int} {x : ChgS} (hB : Bytes rest) (h : chgR rest = .ok (x, r)) : rest = chgB x ++ r := by
  obtain ⟨r1, r2, r3, r4, n, g, m, e1, en, e2, eg, e3, em, e4, eo⟩ := chgR_P rest
  rw [eo] at h
  unfold chgP at h
  split at h; · cases h
  rename_i c1
  split at h; · cases h
  rename_i c2
  split at h; · cases h
  rename_i c3
  split at h; · cases h
  rename_i c4
  match rest, c1 with
  | [], c1 => simp at c1
  | a :: tl', _ =>
  have ha := hB a (by simp)
  have e1' : r1 = tl' := by rw [← e1]; rfl
  have en' : (n : Int) = a := by rw [← en]; show ((valLE [a]).toNat : Int) = a; rw [val1]; omega
  have hB1 : Bytes r1 := fun z hz => hB z (by rw [e1'] at hz; exact List.mem_cons_of_mem _ hz)
  have hB2 : Bytes r2 := fun z hz => hB1 z (by rw [← e2] at hz; exact List.mem_of_mem_drop hz)
  have hkb : Bytes (r1.take n) := fun z hz => hB1 z (List.mem_of_mem_take hz)
  have hkl : (r1.take n).length = n := by rw [List.length_take]; omega
  have hr1 : r1 = r1.take n ++ r2 := by rw [← e2, List.take_append_drop]
  have hsz : IntKind.u8.wrap ((strOfNums (r1.take n)).size : Int) = a := by rw [size_str, hkl, en']; exact wrap_u8 ha.1 ha.2
  match r2, c3 with
  | [], c3 => simp at c3
  | g0 :: r2', _ =>
  have eg' : g = g0 := by rw [← eg]; exact val1 g0
  have e3' : r3 = r2' := by rw [← e3]; rfl
  have hg0 := hB2 g0 (by simp)
  split at h
  · rename_i c5
    injection h with h
    simp only [Prod.mk.injEq] at h
    obtain ⟨rfl, rfl⟩ := h
    rw [chgB_eqt (x := ⟨strOfNums (r1.take n), [], true⟩) rfl]
    simp only
    rw [hsz, bytes_str hkb, ← e1']
    conv => lhs; rw [hr1]
    rw [e3', ← eg', c5]
    simp
  · rename_i c5
    split at h; · cases h
    rename_i c6
    split at h; · cases h
    rename_i c7
    split at h; · cases h
    rename_i c8
    injection h with h
    simp only [Prod.mk.injEq] at h
    obtain ⟨rfl, rfl⟩ := h
    have hg : g0 = 0 := by omega
    have hB3 : Bytes r3 := fun z hz => hB2 z (by rw [e3'] at hz; exact List.mem_cons_of_mem _ hz)
    have h4l : (r3.take 4).length = 4 := by rw [List.length_take]; omega
    have h4b : Bytes (r3.take 4) := fun z hz => hB3 z (List.mem_of_mem_take hz)
    have hm := valLE_bd h4b
    rw [em] at hm
    have hvl : (r4.take m.toNat).length = m.toNat := by rw [List.length_take]; omega
    have hcl : countL (r4.take m.toNat).length = r3.take 4 := by
      rw [hvl, countL_small (by omega)]
      have : ((m.toNat : Nat) : Int) = m := by omega
      rw [this, ← em]
      exact bytes_val h4b h4l
    have hr3 : r3 = r3.take 4 ++ r4 := by rw [← e4, List.take_append_drop]
    rw [chgB_eqf (x := ⟨strOfNums (r1.take n), r4.take m.toNat, false⟩) rfl]
    simp only
    rw [hsz, bytes_str hkb, hcl, ← e1']
    conv => lhs; rw [hr1]
    rw [hg, ← e3']
    conv => lhs; rw [hr3]
    conv => lhs; rw [← List.take_append_drop m.toNat r4]
    simp
theorem mayC_snoc {acc : List ChgS} {x : ChgS} (ha : mayC acc = true) (hx : mayC ((acc ++ [x]).drop (acc.length + 1 - 2)) = true) : mayC (acc ++ [x]) = true := by
  rw [mayC_iff] at ha hx ⊢
  have hxm : x ∈ (acc ++ [x]).drop (acc.length + 1 - 2) := by
    rw [List.mem_iff_getElem?]
    refine ⟨acc.length - (acc.length + 1 - 2), ?_⟩
    rw [List.getElem?_drop, show acc.length + 1 - 2 + (acc.length - (acc.length + 1 - 2)) = acc.length by omega]
    simp
  refine ⟨fun c hc => ?_, ?_⟩
  · rcases List.mem_append.1 hc with h | h
    · exact ha.1 c h
    · rw [List.mem_singleton] at h
      rw [h]; exact hx.1 x hxm
  · rw [List.pairwise_append]
    refine ⟨ha.2, List.pairwise_singleton _ _, fun c hc d hd => ?_⟩
    rw [List.mem_singleton] at hd
    subst hd
    obtain ⟨i, hi, rfl⟩ := List.mem_iff_getElem.1 hc
    have hlast : ltK acc[acc.length - 1].f0 d.f0 := by
      have h2 := List.pairwise_iff_getElem.1 hx.2 0 1 (by simp; omega) (by simp; omega) (by omega)
      rw [List.getElem_drop, List.getElem_drop] at h2
      have i0 : acc.length + 1 - 2 + 0 = acc.length - 1 := by omega
      have i1 : acc.length + 1 - 2 + 1 = acc.length := by omega
      simp only [i0, i1] at h2
      rw [List.getElem_append_left (by omega)] at h2
      simpa using h2
    rcases Nat.lt_or_ge i (acc.length - 1) with h | h
    · exact ltK_trans (List.pairwise_iff_getElem.1 ha.2 i (acc.length - 1) hi (by omega) h) hlast
    · have : i = acc.length - 1 := by omega
      subst this
      exact hlast
theorem getLoop_inv : ∀ (k : Nat) (rest : List Int) (acc m : List ChgS), Bytes rest → mayC acc = true → getLoop k rest acc = (m, 0) → ∃ m', m = acc ++ m' ∧ m'.length = k ∧ rest = m'.flatMap chgB ∧ mayC m = true
  | 0, rest, acc, m, hB, ha, h => by
    rw [getLoop_end] at h
    split at h
    · have := (Prod.mk.inj h).2; cases this
    · rename_i c
      have hm := (Prod.mk.inj h).1
      subst hm
      exact ⟨[], by simp, rfl, by simpa using List.eq_nil_of_length_eq_zero (show rest.length = 0 by omega), ha⟩
  | k + 1, rest, acc, m, hB, ha, h => by
    cases hq : chgR rest with
    | error c =>
      rw [getLoop_err hq] at h
      have h2 := (Prod.mk.inj h).2
      have := chgR_err hq
      omega
    | ok p =>
      obtain ⟨x, r⟩ := p
      rw [getLoop_ok hq] at h
      split at h
      · rename_i c
        obtain ⟨⟨j, hj⟩, _⟩ := chgR_ok hq
        have hBr : Bytes r := fun z hz => hB z (by rw [hj] at hz; exact List.mem_of_mem_drop hz)
        obtain ⟨m', h1, h2, h3, h4⟩ := getLoop_inv k r (acc ++ [x]) m hBr (mayC_snoc ha c) h
        refine ⟨x :: m', by rw [h1]; simp, by simp [h2], ?_, h4⟩
        rw [chgR_inv hB hq, h3]
        simp
      · have := (Prod.mk.inj h).2; cases this
theorem getLoop_bad : ∀ (k : Nat) (rest : List Int) (acc m : List ChgS) (e : Int), getLoop k rest acc = (m, e) → e ≠ 0 → m = []
  | 0, rest, acc, m, e, h, he => by
    rw [getLoop_end] at h
    split at h
    · exact (Prod.mk.inj h).1.symm
    · exact absurd (Prod.mk.inj h).2.symm he
  | k + 1, rest, acc, m, e, h, he => by
    cases hq : chgR rest with
    | error c => rw [getLoop_err hq] at h; exact (Prod.mk.inj h).1.symm
    | ok p =>
      obtain ⟨x, r⟩ := p
      rw [getLoop_ok hq] at h
      split at h
      · exact getLoop_bad k r _ m e h he
      · exact (Prod.mk.inj h).1.symm
theorem getL_bad {b : List Int} {m : List ChgS} {e : Int} (h : getL b = (m, e)) (he : e ≠ 0) : m = [] := by
  unfold getL at h
  split at h
  · exact (Prod.mk.inj h).1.symm
  · exact getLoop_bad _ _ _ _ _ h he
theorem getL_back {b : List Int} {m : List ChgS} (hB : Bytes b) (h : getL b = (m, 0)) : putL m = b ∧ mayC m = true := by
  unfold getL at h
  split at h
  · have := (Prod.mk.inj h).2; cases this
  · rename_i c
    obtain ⟨m', h1, h2, h3, h4⟩ := getLoop_inv _ _ [] m (fun z hz => hB z (List.mem_of_mem_drop hz)) rfl h
    rw [List.nil_append] at h1
    subst h1
    refine ⟨?_, h4⟩
    have hbt : Bytes (b.take 4) := fun z hz => hB z (List.mem_of_mem_take hz)
    have hlt : (b.take 4).length = 4 := by rw [List.length_take]; omega
    have hv := valLE_bd hbt
    rw [hlt] at hv
    have e256 : (256 : Int) ^ 4 = 4294967296 := by decide
    rw [e256] at hv
    unfold putL
    rw [← h3, h2, countL_small (by omega)]
    have : (((valLE (b.take 4)).toNat : Nat) : Int) = valLE (b.take 4) := by omega
    rw [this, bytes_val hbt hlt, List.take_append_drop]
theorem mayC_mid {l : List ChgS} (h : mayC l = true) (i j : Nat) : mayC ((l.take i).drop j) = true := by
  rw [mayC_iff] at h ⊢
  exact ⟨fun c hc => h.1 c (List.mem_of_mem_take (List.mem_of_mem_drop hc)), h.2.sublist ((List.drop_sublist _ _).trans (List.take_sublist _ _))⟩
theorem getLoop_put {l : List ChgS} (h : mayC l = true) (hB : ∀ x ∈ l, Bytes x.f1) : ∀ (d i : Nat), i + d = l.length → getLoop d ((l.drop i).flatMap chgB) (l.take i) = (l, 0)
  | 0, i, hi => by
    rw [getLoop_end, List.drop_of_length_le (by omega), List.take_of_length_le (by omega)]
    simp
  | d + 1, i, hi => by
    have hlt : i < l.length := by omega
    have hx := drop_at l z96 i hlt
    obtain ⟨y, hy⟩ : ∃ y, l.getD i z96 = y := ⟨_, rfl⟩
    have hym : y ∈ l := by rw [← hy, getD_at l _ i hlt]; exact List.getElem_mem hlt
    rw [hy] at hx
    have htk : l.take (i + 1) = l.take i ++ [y] := by
      rw [List.take_add_one, List.getElem?_eq_getElem hlt, ← hy, getD_at l _ i hlt]; rfl
    rw [hx, List.flatMap_cons, getLoop_ok (chgR_chgB (((mayC_iff l).1 h).1 y hym) (hB y hym) _)]
    rw [← htk, if_pos (mayC_mid h _ _)]
    exact getLoop_put h hB d (i + 1) (by omega)
theorem getL_put {l : List ChgS} (h : mayC l = true) (hB : ∀ x ∈ l, Bytes x.f1) (hn : (l.length : Int) < 4294967296) : getL (putL l) = (l, 0) := by
  have h4 := countL_len4 hn
  have hv := countL_val hn
  unfold getL putL
  generalize countL l.length = C4 at h4 hv
  rw [if_neg (by rw [List.length_append]; omega), List.take_left' h4, List.drop_left' h4, hv, Int.toNat_natCast]
  exact getLoop_put h hB l.length 0 (by omega)
theorem bytes_app {a b : List Int} (ha : Bytes a) (hb : Bytes b) : Bytes (a ++ b) := fun z hz => by
  rcases List.mem_append.1 hz with h | h
  · exact ha z h
  · exact hb z h
theorem bytesOf_bytes (s : ByteArray) : Bytes (bytesOf s) := by
  intro z hz
  unfold bytesOf at hz
  rw [List.mem_map] at hz
  obtain ⟨b, _, rfl⟩ := hz
  have := b.toNat_lt
  omega
theorem countL_bytes (n : Nat) : Bytes (countL n) := by
  unfold countL
  split
  · exact bytesLE_bytes _ _
  · intro z hz; cases hz
theorem bytes_cons {q : Int} {l : List Int} (hq : 0 ≤ q ∧ q ≤ 255) (h : Bytes l) : Bytes (q :: l) := fun z hz => by
  rcases List.mem_cons.1 hz with rfl | hz
  · exact hq
  · exact h z hz
theorem bytes_nil : Bytes [] := fun z hz => by cases hz
theorem bytes_t {q : Int} {b : List Int} (hq : 0 ≤ q ∧ q ≤ 255) (hb : Bytes b) : Bytes ((q :: b) ++ [1]) := bytes_app (bytes_cons hq hb) (bytes_cons (by omega) bytes_nil)
theorem bytes_f {q : Int} {b c v : List Int} (hq : 0 ≤ q ∧ q ≤ 255) (hb : Bytes b) (hc : Bytes c) (hv : Bytes v) : Bytes ((q :: b) ++ (0 :: c ++ v)) := bytes_app (bytes_cons hq hb) (bytes_app (bytes_cons (by omega) hc) hv)
theorem wrap_range (n : Int) : 0 ≤ IntKind.u8.wrap n ∧ IntKind.u8.wrap n ≤ 255 := by rw [IntKind.wrap_u8]; omega
theorem chgB_bytes {x : ChgS} (hB : Bytes x.f1) : Bytes (chgB x) := by
  cases hf : x.f2 with
  | true => rw [chgB_eqt hf]; exact bytes_t (wrap_range _) (bytesOf_bytes _)
  | false => rw [chgB_eqf hf]; exact bytes_f (wrap_range _) (bytesOf_bytes _) (countL_bytes _) hB
theorem putL_bytes {l : List ChgS} (hB : ∀ x ∈ l, Bytes x.f1) : Bytes (putL l) := by
  unfold putL
  refine bytes_app (countL_bytes _) ?_
  intro z hz
  rw [List.mem_flatMap] at hz
  obtain ⟨x, hx, hz⟩ := hz
  exact chgB_bytes (hB x hx) z hz
theorem chgB_len_le {x : ChgS} (hx : ChgOk x) : (chgB x).length ≤ 524320 := by
  have h1 := hx.key.2
  have h2 := hx.len
  cases hf : x.f2 with
  | true => have := chgB_t hf; omega
  | false =>
    refine Nat.le_trans (Nat.le_of_eq (chgB_f hf)) ?_
    have h3 := countL_len x.f1.length
    generalize (countL x.f1.length).length = q at h3 ⊢
    omega
theorem flat_len : ∀ (l : List ChgS), (∀ x ∈ l, ChgOk x) → (l.flatMap chgB).length ≤ l.length * 524320
  | [], _ => by simp
  | x :: l, h => by
    have ih := flat_len l (fun y hy => h y (List.mem_cons_of_mem _ hy))
    have hx := h x (List.mem_cons_self ..)
    have h4 := chgB_len_le hx
    rw [List.flatMap_cons, List.length_append, List.length_cons, Nat.succ_mul]
    omega
theorem putL_len {l : List ChgS} (h : mayC l = true) (hn : l.length ≤ 1048576) : ((putL l).length + 1) * 48 ≤ 140737488355328 := by
  have h1 := flat_len l ((mayC_iff l).1 h).1
  have h2 := countL_len l.length
  unfold putL
  rw [List.length_append]
  generalize (countL l.length).length = q at h2
  have h3 : l.length * 524320 ≤ 1048576 * 524320 := Nat.mul_le_mul_right _ hn
  omega
end Go.Proofs.Ytaoflcmjmhfblaa.D
/- The law BatchBack. -/
namespace Go.Proofs.Ytaoflcmjmhfblaa.D
open Go.RowKit Go.Proofs.YtaoflcmjmhfblaaW.PrintWords Go.Proofs.YtaoflcmjmhfblaaW.PrintLast Go.Proofs.YtaoflcmjmhfblaaW.PrintMore Go.Proofs.Ytaoflcmjmhfblaa.H Go.Shelf
set_option linter.unusedVariables false
set_option linter.unusedSimpArgs false
theorem getLoop_code : ∀ (k : Nat) (rest : List Int) (acc m : List ChgS) (e : Int), getLoop k rest acc = (m, e) → e = 0 ∨ e = 3 ∨ e = 4 ∨ e = 5
  | 0, rest, acc, m, e, h => by
    rw [getLoop_end] at h
    split at h
    · have := (Prod.mk.inj h).2; omega
    · have := (Prod.mk.inj h).2; omega
  | k + 1, rest, acc, m, e, h => by
    cases hq : chgR rest with
    | error c =>
      rw [getLoop_err hq] at h
      have := (Prod.mk.inj h).2
      have := chgR_err hq
      omega
    | ok p =>
      obtain ⟨x, r⟩ := p
      rw [getLoop_ok hq] at h
      split at h
      · exact getLoop_code k r _ m e h
      · have := (Prod.mk.inj h).2; omega
theorem getL_code {b : List Int} {m : List ChgS} {e : Int} (h : getL b = (m, e)) : e = 0 ∨ e = 3 ∨ e = 4 ∨ e = 5 := by
  unfold getL at h
  split at h
  · have := (Prod.mk.inj h).2; omega
  · exact getLoop_code _ _ _ _ _ h
set_option maxHeartbeats 4000000 in
set_option maxRecDepth 100000 in
theorem back_walk {A0 A1 : Option Addr} {c0 c1 : Nat} {l0 : List ChgS} {l1 : List Int} (w : World) (h0 : Kd.C kChg w A0 l0.length l0) (k0 : l0.length ≤ c0) (h1 : Kd.C (Kd.int .u8) w A1 l1.length l1) (k1 : l1.length ≤ c1)
    (hB0 : ∀ x ∈ l0, Bytes x.f1) (hBy : Bytes l1) (s0 : l0.length ≤ 1048576) (s1 : l1.length ≤ 1048576) :
    Calls Try.prog 8 #[.slice A0 l0.length c0, .slice A1 l1.length c1] w fun e w' => e = .returned (.bool true) ∧ Below w.heap.size w w' := by
  have KL := Lib.hid (fun W => cohortlaw09_lives.calls true W rfl)
  obtain ⟨⟨m, er⟩, hgl⟩ : ∃ p, getL l1 = p := ⟨_, rfl⟩
  have KGB := Lib.hid (fun W (hW : Below w.heap.size w W) => batch_Get.calls A1 c1 l1 m er W (Kd.C_below h1 hW) k1 (by unfold batch_Get.f; rw [if_pos ⟨hBy, by omega⟩, hgl]))
  have her := getL_code hgl
  have KM := Lib.hid (fun W (hW : Below w.heap.size w W) => batch_MayChange.calls A0 c0 l0 (mayC l0) W (Kd.C_below h0 hW) k0 rfl)
  have HB1A := Lib.hid h1
  have HB1L := Lib.hid k1
  cases hm0 : mayC l0 with
  | false =>
    have KP := Lib.hid (batch_Put.calls A0 c0 l0 [] 2 w h0 k0 (by unfold batch_Put.f; rw [hm0, if_neg Bool.false_ne_true]))
    rw [hm0] at KM
    clear h0 k0 h1 k1 hB0 s0 hm0
    go_enter Try.func8, Try.ntmps8
    go_upto_region 8 with (first | (go_at_call 33; refine (KM.out _ HB1.out).mono ?_; rintro e w2 ⟨rfl, hb⟩; have HB2 := Lib.hid (below_step HB1.out hb); clear hb) | (go_at_call 32; refine KP.out.mono ?_; rintro e w1 ⟨v1, rfl, ho, hb⟩; have HB1 := Lib.hid hb; clear ho hb))
    rcases her with her | her | her | her
    · subst her
      obtain ⟨hpb, hmm⟩ := getL_back hBy hgl
      have KPM := Lib.hid (fun (A : Option Addr) c W (hC : Kd.C kChg W A m.length m) (hc : m.length ≤ c) => batch_Put.calls A c m l1 0 W hC hc (by unfold batch_Put.f; rw [hmm, if_pos rfl, hpb, if_pos (by omega)]))
      have KMM := Lib.hid (fun (A : Option Addr) c W (hC : Kd.C kChg W A m.length m) (hc : m.length ≤ c) => batch_MayChange.calls A c m true W hC hc (congrArg some hmm))
      clear hgl hBy hpb hmm
      go_upto_region 9 with (first | (go_at_call 34; refine (KGB.out _ HB2.out).mono ?_; rintro e w5 ⟨v5, rfl, ho, hb⟩; have HB5 := Lib.hid (below_step HB2.out hb); have HM5 := Lib.hid (Kd.S_reads ho); clear ho hb))
      obtain ⟨NA, nc, rfl, nl, nC⟩ := HM5.out
      have KP5 := Lib.hid (KPM.out NA nc w5 nC nl)
      have HN5 := Lib.hid nC
      have HNL := Lib.hid nl
      clear nC nl HM5
      go_upto_region 12 with (first | (go_at_call 32; refine KP5.out.mono ?_; rintro e w6 ⟨v6, rfl, ho, hb⟩; have HB6 := Lib.hid (below_step HB5.out hb); have HY6 := Lib.hid (Kd.R_reads ho); have HN6 := Lib.hid (Kd.C_below HN5.out hb); clear ho hb))
      obtain ⟨YA, yc, rfl, yl, yC⟩ := HY6.out
      have KS6 := Lib.hid (cohortref00_Same.calls YA yc l1 A1 c1 l1 true w6 yC yl (Kd.C_below HB1A.out HB6.out) HB1L.out (same_self _))
      have KM6 := Lib.hid (fun W (hW : Below w6.heap.size w6 W) => KMM.out NA nc W (Kd.C_below HN6.out hW) HNL.out)
      clear yC yl HY6
      go_wp2_with (first
        | (go_at_call 37; refine KS6.out.mono ?_; rintro e w7 ⟨rfl, hd⟩; have HB7 := Lib.hid (drawn0_below hd); clear hd)
        | (go_at_call 33; refine (KM6.out _ HB7.out).mono ?_; rintro e w8 ⟨rfl, hb⟩; have HB8 := Lib.hid (below_step HB7.out hb); clear hb)
        | (go_at_call 36; refine (KL.out _).mono ?_; rintro e w9 ⟨rfl, hb⟩; have HB9 := Lib.hid (below_step HB8.out hb); clear hb))
      go_ret
      exact ⟨rfl, below_step HB6.out HB9.out⟩
    all_goals
      subst her
      have hmn := getL_bad hgl (by decide)
      subst hmn
      clear hgl hBy
      go_upto_region 9 with (first | (go_at_call 34; refine (KGB.out _ HB2.out).mono ?_; rintro e w5 ⟨v5, rfl, ho, hb⟩; have HB5 := Lib.hid (below_step HB2.out hb); have HM5 := Lib.hid (Kd.S_slice ho); clear ho hb))
      obtain ⟨NA, nc, rfl⟩ := HM5.out
      go_wp2_with (first | (go_at_call 36; refine (KL.out _).mono ?_; rintro e w9 ⟨rfl, hb⟩; have HB9 := Lib.hid hb; clear hb))
      go_ret
      exact ⟨rfl, below_step HB5.out HB9.out⟩
  | true =>
    have hpl := putL_len hm0 s0
    have KP := Lib.hid (batch_Put.calls A0 c0 l0 (putL l0) 0 w h0 k0 (by unfold batch_Put.f; rw [hm0, if_pos rfl, if_pos (by omega)]))
    have hgp : batch_Get.f (putL l0) = some (l0, 0) := by
      unfold batch_Get.f
      rw [if_pos ⟨putL_bytes hB0, hpl⟩, getL_put hm0 hB0 (by omega)]
    obtain ⟨P0, hP0⟩ : ∃ P0, putL l0 = P0 := ⟨_, rfl⟩
    rw [hP0] at KP hgp
    have KG := Lib.hid (fun (A : Option Addr) c W (hC : Kd.C (Kd.int .u8) W A P0.length P0) (hc : P0.length ≤ c) => batch_Get.calls A c P0 l0 0 W hC hc hgp)
    have KC := Lib.hid (fun (A : Option Addr) c W (hC : Kd.C kChg W A l0.length l0) (hW : Below w.heap.size w W) => changes_same A c A0 c0 l0 W hC (Kd.C_below h0 hW))
    rw [hm0] at KM
    clear h0 k0 h1 k1 hB0 s0 hm0 hpl hgp hP0
    go_enter Try.func8, Try.ntmps8
    go_upto_region 8 with (first
    | (go_at_call 33; refine (KM.out _ HB1.out).mono ?_; rintro e w2 ⟨rfl, hb⟩; have HB2 := Lib.hid (below_step HB1.out hb); have HX2 := Lib.hid (Kd.C_below HX1.out hb); have KG2 := Lib.hid (KG.out XA xc w2 HX2.out HXL.out); clear hb)
    | (go_at_call 32; refine KP.out.mono ?_; rintro e w1 ⟨v1, rfl, ho, hb⟩; have HB1 := Lib.hid hb; obtain ⟨XA, xc, hv1, xl, xC⟩ := Kd.R_reads ho; subst hv1; have HX1 := Lib.hid xC; have HXL := Lib.hid xl; clear ho hb xC xl)
    | (go_at_call 34; refine KG2.out.mono ?_; rintro e w3 ⟨v3, rfl, ho, hb⟩; have HB3 := Lib.hid (below_step HB2.out hb); obtain ⟨MA, mc, hv3, _, mC⟩ := Kd.S_reads ho; subst hv3; have KC3 := Lib.hid (KC.out MA mc w3 mC HB3.out); clear ho hb mC)
    | (go_at_call 35; refine KC3.out.mono ?_; rintro e w4 ⟨rfl, hb⟩; have HB4 := Lib.hid (below_step HB3.out hb); clear hb))
    rcases her with her | her | her | her
    · subst her
      obtain ⟨hpb, hmm⟩ := getL_back hBy hgl
      have KPM := Lib.hid (fun (A : Option Addr) c W (hC : Kd.C kChg W A m.length m) (hc : m.length ≤ c) => batch_Put.calls A c m l1 0 W hC hc (by unfold batch_Put.f; rw [hmm, if_pos rfl, hpb, if_pos (by omega)]))
      have KMM := Lib.hid (fun (A : Option Addr) c W (hC : Kd.C kChg W A m.length m) (hc : m.length ≤ c) => batch_MayChange.calls A c m true W hC hc (congrArg some hmm))
      clear hgl hBy hpb hmm
      go_upto_region 9 with (first | (go_at_call 34; refine (KGB.out _ HB4.out).mono ?_; rintro e w5 ⟨v5, rfl, ho, hb⟩; have HB5 := Lib.hid (below_step HB4.out hb); have HM5 := Lib.hid (Kd.S_reads ho); clear ho hb))
      obtain ⟨NA, nc, rfl, nl, nC⟩ := HM5.out
      have KP5 := Lib.hid (KPM.out NA nc w5 nC nl)
      have HN5 := Lib.hid nC
      have HNL := Lib.hid nl
      clear nC nl HM5
      go_upto_region 12 with (first | (go_at_call 32; refine KP5.out.mono ?_; rintro e w6 ⟨v6, rfl, ho, hb⟩; have HB6 := Lib.hid (below_step HB5.out hb); have HY6 := Lib.hid (Kd.R_reads ho); have HN6 := Lib.hid (Kd.C_below HN5.out hb); clear ho hb))
      obtain ⟨YA, yc, rfl, yl, yC⟩ := HY6.out
      have KS6 := Lib.hid (cohortref00_Same.calls YA yc l1 A1 c1 l1 true w6 yC yl (Kd.C_below HB1A.out HB6.out) HB1L.out (same_self _))
      have KM6 := Lib.hid (fun W (hW : Below w6.heap.size w6 W) => KMM.out NA nc W (Kd.C_below HN6.out hW) HNL.out)
      clear yC yl HY6
      go_wp2_with (first
        | (go_at_call 37; refine KS6.out.mono ?_; rintro e w7 ⟨rfl, hd⟩; have HB7 := Lib.hid (drawn0_below hd); clear hd)
        | (go_at_call 33; refine (KM6.out _ HB7.out).mono ?_; rintro e w8 ⟨rfl, hb⟩; have HB8 := Lib.hid (below_step HB7.out hb); clear hb)
        | (go_at_call 36; refine (KL.out _).mono ?_; rintro e w9 ⟨rfl, hb⟩; have HB9 := Lib.hid (below_step HB8.out hb); clear hb))
      go_ret
      exact ⟨rfl, below_step HB6.out HB9.out⟩
    all_goals
      subst her
      have hmn := getL_bad hgl (by decide)
      subst hmn
      clear hgl hBy
      go_upto_region 9 with (first | (go_at_call 34; refine (KGB.out _ HB4.out).mono ?_; rintro e w5 ⟨v5, rfl, ho, hb⟩; have HB5 := Lib.hid (below_step HB4.out hb); have HM5 := Lib.hid (Kd.S_slice ho); clear ho hb))
      obtain ⟨NA, nc, rfl⟩ := HM5.out
      go_wp2_with (first | (go_at_call 36; refine (KL.out _).mono ?_; rintro e w9 ⟨rfl, hb⟩; have HB9 := Lib.hid hb; clear hb))
      go_ret
      exact ⟨rfl, below_step HB5.out HB9.out⟩
end Go.Proofs.Ytaoflcmjmhfblaa.D
namespace Go.Proofs.Ytaoflcmjmhfblaa.H
set_option linter.unusedVariables false
open Go.RowKit Go.Proofs.YtaoflcmjmhfblaaW.PrintWords Go.Proofs.YtaoflcmjmhfblaaW.PrintLast Go.Proofs.YtaoflcmjmhfblaaW.PrintMore Go.Proofs.Ytaoflcmjmhfblaa.D
theorem batchBack_walk {A0 A1 : Option Addr} {c0 c1 : Nat} {l0 : List ChgS} {l1 : List Int} (w : World) (h0 : Kd.C kChg w A0 l0.length l0) (k0 : l0.length ≤ c0) (w0 : l0.length ≤ 9223372036854775807 ∧ l0.length * 48 ≤ 140737488351232 ∧ ∀ x ∈ l0, Bytes x.f1)
    (h1 : Kd.C (Kd.int .u8) w A1 l1.length l1) (k1 : l1.length ≤ c1) (w1 : Bytes l1 ∧ l1.length ≤ 140737488351232) (s0 : l0.length ≤ 1048576) (s1 : l1.length ≤ 1048576) :
    Calls Try.prog 8 #[.slice A0 l0.length c0, .slice A1 l1.length c1] w fun e w' => e = .returned (.bool true) ∧ Below w.heap.size w w' :=
  back_walk w h0 k0 h1 k1 w0.2.2 w1.1 s0 s1
end Go.Proofs.Ytaoflcmjmhfblaa.H
