/- Plain laws: the document's May and MayChange are the program's. -/
import Derived.Test.YtaoflcmjmhfblaaBaFind
import Derived.Test.YtaoflcmjmhfblaaBaGet2
import Derived.Test.YtaoflcmjmhfblaaD3
import Derived.Test.YtaoflcmjmhfblaaNumB
import Derived.Test.YtaoflcmjmhfblaaBaO
import Derived.Test.YtaoflcmjmhfblaaD12
namespace Go.Proofs.Ytaoflcmjmhfblaa.D
open Go.RowKit Go.Proofs.YtaoflcmjmhfblaaW.PrintWords Go.Proofs.YtaoflcmjmhfblaaW.PrintLast Go.Proofs.YtaoflcmjmhfblaaW.PrintMore Go.Proofs.Ytaoflcmjmhfblaa.H Go.Shelf
set_option linter.unusedVariables false
set_option linter.unusedSimpArgs false
/-- With enough fuel it is r. -/
def Ev {α : Type} (f : Nat → Option α) (r : α) : Prop := ∃ k0, ∀ k, k0 ≤ k → f k = some r
theorem Ev.val {α : Type} (r : α) : Ev (fun _ => some r) r := ⟨0, fun _ _ => rfl⟩
theorem Ev.of {α : Type} {f : Nat → Option α} {r : α} (h : ∀ k, f k = some r) : Ev f r := ⟨0, fun k _ => h k⟩
theorem Ev.step {α : Type} {f g : Nat → Option α} {r : α} (h : ∀ k, f (k + 1) = g k) (hg : Ev g r) : Ev f r := by
  obtain ⟨k0, h0⟩ := hg
  refine ⟨k0 + 1, fun k hk => ?_⟩
  obtain ⟨j, rfl⟩ : ∃ j, k = j + 1 := ⟨k - 1, by omega⟩
  rw [h j]
  exact h0 j (by omega)
theorem Ev.same {α : Type} {f g : Nat → Option α} {r : α} (h : ∀ k, f k = g k) (hg : Ev g r) : Ev f r := by
  obtain ⟨k0, h0⟩ := hg
  exact ⟨k0, fun k hk => by rw [h k]; exact h0 k hk⟩
theorem Ev.bind {α β : Type} {f : Nat → Option α} {h : Nat → α → Option β} {a : α} {r : β} (hf : Ev f a) (hh : Ev (fun k => h k a) r) : Ev (fun k => (f k).bind (h k)) r := by
  obtain ⟨k0, h0⟩ := hf
  obtain ⟨k1, h1⟩ := hh
  refine ⟨max k0 k1, fun k hk => ?_⟩
  show (f k).bind (h k) = some r
  rw [h0 k (by omega), Option.bind_some]
  exact h1 k (by omega)
theorem Ev.one {α : Type} {f : Nat → Option α} {r : α} (h : Ev f r) : ∃ k, f k = some r := by
  obtain ⟨k0, h0⟩ := h
  exact ⟨k0, h0 k0 (Nat.le_refl _)⟩
theorem wrapN (i : Nat) (h : i < 4611686018427387904) : wrap64 ((i : Int) + 1) = ((i + 1 : Nat) : Int) := by unfold wrap64; omega
theorem size_toList (b : ByteArray) : b.toList.isEmpty = (b.size == 0) := by
  rw [ByteArray.toList_eq]
  cases b with
  | mk a =>
    cases a with
    | mk l =>
      cases l <;> rfl
theorem keyed_eq (a b : ByteArray) (c : Bool) : cohortref09_keyed.f a b c = some (!a.toList.isEmpty && decide (a.size ≤ 16) && (c || Op.bytesLess b.toList a.toList)) := by
  unfold cohortref09_keyed.f
  rw [size_toList]
  by_cases h1 : (a.size : Int) ≥ 1
  · rw [if_pos h1]
    have e1 : (a.size == 0) = false := beq_eq_false_iff_ne.2 (by omega)
    rw [e1]
    by_cases h2 : (a.size : Int) ≤ 16
    · rw [if_pos h2, decide_eq_true (show a.size ≤ 16 by omega)]
      cases c <;> simp
    · rw [if_neg h2, decide_eq_false (show ¬ a.size ≤ 16 by omega)]
      simp
  · rw [if_neg h1]
    have e1 : (a.size == 0) = true := beq_iff_eq.2 (by omega)
    rw [e1]
    rfl
theorem rd_row (l : List RowS) (i : Nat) : rd_T161 l (i : Int) = l.getD i z161 := by unfold rd_T161; rw [Int.toNat_natCast]
theorem rd_chg (l : List ChgS) (i : Nat) : rd_T96 l (i : Int) = l.getD i z96 := by unfold rd_T96; rw [Int.toNat_natCast]
theorem may_loop (l : List RowS) (hn : l.length < 4611686018427387904) : ∀ (d i : Nat) (last : ByteArray), i + d = l.length → (0 < i → last = keyR l (i - 1)) →
    Ev (fun k => cohortref09_May.l0 k l last (i : Int)) ((List.range' i d).all (okAt (keyR l) (lenR l)))
  | 0, i, last, hi, hl => by
    refine Ev.step (g := fun _ => some true) (fun k => ?_) (Ev.val _)
    show cohortref09_May.l0 (k + 1) l last i = some true
    unfold cohortref09_May.l0
    rw [if_neg (by omega)]
  | d + 1, i, last, hi, hl => by
    have ih := may_loop l hn d (i + 1) (keyR l i) (by omega) (fun _ => by rw [Nat.add_sub_cancel])
    have hk : okAt (keyR l) (lenR l) i = ((!(keyR l i).toList.isEmpty && decide ((keyR l i).size ≤ 16) && (((i : Int) == 0) || Op.bytesLess last.toList (keyR l i).toList)) && decide (lenR l i ≤ 524288)) := by
      unfold okAt
      rcases Nat.eq_zero_or_pos i with h | h
      · subst h; rfl
      · have e1 : (i == 0) = false := by simp; omega
        have e2 : ((i : Int) == 0) = false := by simp; omega
        rw [e1, e2, hl h]
    rw [List.range'_succ, List.all_cons, hk]
    refine Ev.step (g := fun k => (cohortref09_keyed.f (keyR l i) last ((i : Int) == 0)).bind fun t => (if t = true then (if (lenR l i : Int) > 524288 then (some false) else cohortref09_May.l0 k l (keyR l i) ((i + 1 : Nat) : Int)) else (some false))) (fun k => ?_) ?_
    · show cohortref09_May.l0 (k + 1) l last i = _
      conv => lhs; unfold cohortref09_May.l0
      rw [if_pos (by omega), if_pos (by omega), rd_row, wrapN i (by omega)]
      rfl
    · rw [keyed_eq]
      generalize (!(keyR l i).toList.isEmpty && decide ((keyR l i).size ≤ 16) && (((i : Int) == 0) || Op.bytesLess last.toList (keyR l i).toList)) = b
      cases b with
      | false => exact Ev.val _
      | true =>
        by_cases hv : (lenR l i : Int) > 524288
        · rw [decide_eq_false (show ¬ lenR l i ≤ 524288 by omega)]
          refine Ev.of (fun k => ?_)
          simp only [Option.bind_some]
          rw [if_pos True.intro, if_pos hv]
          rfl
        · rw [decide_eq_true (show lenR l i ≤ 524288 by omega)]
          refine Ev.same (g := fun k => cohortref09_May.l0 k l (keyR l i) ((i + 1 : Nat) : Int)) (fun k => ?_) (by simpa using ih)
          simp only [Option.bind_some]
          rw [if_pos True.intro, if_neg hv]
theorem may_eq (l : List RowS) (hn : l.length < 4611686018427387904) : Ev (fun k => cohortref09_May.f k l) (mayR l) := by
  have := may_loop l hn l.length 0 ⟨#[]⟩ (by omega) (fun h => absurd h (by omega))
  unfold mayR risingI
  rw [List.range_eq_range']
  exact this
theorem mayc_loop (l : List ChgS) (hn : l.length < 4611686018427387904) : ∀ (d i : Nat) (last : ByteArray), i + d = l.length → (0 < i → last = keyC l (i - 1)) →
    Ev (fun k => cohortref09_MayChange.l0 k l last (i : Int)) ((List.range' i d).all (fun j => okAt (keyC l) (lenC l) j && !badC (l.getD j z96)))
  | 0, i, last, hi, hl => by
    refine Ev.step (g := fun _ => some true) (fun k => ?_) (Ev.val _)
    show cohortref09_MayChange.l0 (k + 1) l last i = some true
    unfold cohortref09_MayChange.l0
    rw [if_neg (by omega)]
  | d + 1, i, last, hi, hl => by
    have ih := mayc_loop l hn d (i + 1) (keyC l i) (by omega) (fun _ => by rw [Nat.add_sub_cancel])
    have hk : okAt (keyC l) (lenC l) i = ((!(keyC l i).toList.isEmpty && decide ((keyC l i).size ≤ 16) && (((i : Int) == 0) || Op.bytesLess last.toList (keyC l i).toList)) && decide (lenC l i ≤ 524288)) := by
      unfold okAt
      rcases Nat.eq_zero_or_pos i with h | h
      · subst h; rfl
      · have e1 : (i == 0) = false := by simp; omega
        have e2 : ((i : Int) == 0) = false := by simp; omega
        rw [e1, e2, hl h]
    rw [List.range'_succ, List.all_cons, hk]
    refine Ev.step (g := fun k => (cohortref09_keyed.f (keyC l i) last ((i : Int) == 0)).bind fun t => (if t = true then (if (lenC l i : Int) > 524288 then (some false) else (if (l.getD i z96).f2 = true then (if (lenC l i : Int) > 0 then (some false) else cohortref09_MayChange.l0 k l (keyC l i) ((i + 1 : Nat) : Int)) else cohortref09_MayChange.l0 k l (keyC l i) ((i + 1 : Nat) : Int))) else (some false))) (fun k => ?_) ?_
    · show cohortref09_MayChange.l0 (k + 1) l last i = _
      conv => lhs; unfold cohortref09_MayChange.l0
      rw [if_pos (by omega), if_pos (by omega), rd_chg, wrapN i (by omega)]
      rfl
    · rw [keyed_eq]
      generalize (!(keyC l i).toList.isEmpty && decide ((keyC l i).size ≤ 16) && (((i : Int) == 0) || Op.bytesLess last.toList (keyC l i).toList)) = b
      have hbad : badC (l.getD i z96) = ((l.getD i z96).f2 && decide (0 < lenC l i)) := rfl
      rw [hbad]
      cases b with
      | false => exact Ev.val _
      | true =>
        by_cases hv : (lenC l i : Int) > 524288
        · rw [decide_eq_false (show ¬ lenC l i ≤ 524288 by omega)]
          refine Ev.of (fun k => ?_)
          simp only [Option.bind_some]
          rw [if_pos True.intro, if_pos hv]
          rfl
        · rw [decide_eq_true (show lenC l i ≤ 524288 by omega)]
          cases hf : (l.getD i z96).f2 with
          | false =>
            refine Ev.same (g := fun k => cohortref09_MayChange.l0 k l (keyC l i) ((i + 1 : Nat) : Int)) (fun k => ?_) (by simpa using ih)
            simp only [Option.bind_some]
            rw [if_pos True.intro, if_neg hv, if_neg Bool.false_ne_true]
          | true =>
            by_cases hz : (lenC l i : Int) > 0
            · rw [decide_eq_true (show 0 < lenC l i by omega)]
              refine Ev.of (fun k => ?_)
              simp only [Option.bind_some]
              rw [if_pos True.intro, if_neg hv, if_pos True.intro, if_pos hz]
              rfl
            · rw [decide_eq_false (show ¬ 0 < lenC l i by omega)]
              refine Ev.same (g := fun k => cohortref09_MayChange.l0 k l (keyC l i) ((i + 1 : Nat) : Int)) (fun k => ?_) (by simpa using ih)
              simp only [Option.bind_some]
              rw [if_pos True.intro, if_neg hv, if_pos True.intro, if_neg hz]
theorem any_range {α : Type} (p : α → Bool) (z : α) (l : List α) : l.any p = (List.range l.length).any (fun j => p (l.getD j z)) := by
  rw [Bool.eq_iff_iff, List.any_eq_true, List.any_eq_true]
  constructor
  · rintro ⟨x, hx, hp⟩
    obtain ⟨i, hi, rfl⟩ := List.mem_iff_getElem.1 hx
    exact ⟨i, List.mem_range.2 hi, by rw [List.getD_eq_getElem?_getD, List.getElem?_eq_getElem hi]; exact hp⟩
  · rintro ⟨i, hi, hp⟩
    have hi := List.mem_range.1 hi
    rw [List.getD_eq_getElem?_getD, List.getElem?_eq_getElem hi] at hp
    exact ⟨_, List.getElem_mem hi, hp⟩
theorem all_and {α : Type} (p q : α → Bool) (l : List α) : l.all (fun x => p x && !q x) = (!l.any q && l.all p) := by
  induction l with
  | nil => rfl
  | cons x l ih =>
    simp only [List.all_cons, List.any_cons, ih]
    cases p x <;> cases q x <;> cases l.any q <;> cases l.all p <;> rfl
theorem mayc_eq (l : List ChgS) (hn : l.length < 4611686018427387904) : Ev (fun k => cohortref09_MayChange.f k l) (mayC l) := by
  have h := mayc_loop l hn l.length 0 ⟨#[]⟩ (by omega) (fun h => absurd h (by omega))
  unfold mayC risingI
  rw [any_range badC z96 l, List.range_eq_range', ← all_and]
  exact h
end Go.Proofs.Ytaoflcmjmhfblaa.D
/- Plain laws: rows in order; a list in order is one alone. -/
namespace Go.Proofs.Ytaoflcmjmhfblaa.D
open Go.RowKit Go.Proofs.YtaoflcmjmhfblaaW.PrintWords Go.Proofs.YtaoflcmjmhfblaaW.PrintLast Go.Proofs.YtaoflcmjmhfblaaW.PrintMore Go.Proofs.Ytaoflcmjmhfblaa.H Go.Shelf
set_option linter.unusedVariables false
set_option linter.unusedSimpArgs false
def ltK (a b : ByteArray) : Prop := a.data.toList < b.data.toList
theorem ltK_irr (a : ByteArray) : ¬ ltK a a := lists_irr _
theorem ltK_asymm {a b : ByteArray} (h : ltK a b) : ¬ ltK b a := lists_asymm h
theorem ltK_trans {a b c : ByteArray} (h : ltK a b) (k : ltK b c) : ltK a c := lists_trans h k
theorem ltK_tri {a b : ByteArray} (h : ¬ ltK a b) (k : ¬ ltK b a) : a = b := by
  have := lists_tri h k
  cases a; cases b; congr; exact Array.toList_inj.1 this
instance (a b : ByteArray) : Decidable (ltK a b) := by unfold ltK; infer_instance
theorem less_ltK (a b : ByteArray) : Op.bytesLess a.toList b.toList = decide (ltK a b) := less_eq a b
def scanK (c : Nat → Bool) : Nat → Nat
  | 0 => 0
  | k + 1 => if c k then scanK c k else k + 1
theorem scanK_spec (c : Nat → Bool) : ∀ n, scanK c n ≤ n ∧ (∀ j, scanK c n ≤ j → j < n → c j = true) ∧ (scanK c n = 0 ∨ c (scanK c n - 1) = false)
  | 0 => ⟨Nat.le_refl _, fun j h1 h2 => absurd h2 (by omega), Or.inl rfl⟩
  | n + 1 => by
    obtain ⟨h1, h2, h3⟩ := scanK_spec c n
    unfold scanK
    cases hc : c n with
    | true =>
      rw [if_pos rfl]
      refine ⟨by omega, fun j hj hn => ?_, h3⟩
      rcases Nat.lt_or_ge j n with h | h
      · exact h2 j hj h
      · have : j = n := by omega
        rw [this]; exact hc
    | false =>
      rw [if_neg Bool.false_ne_true]
      exact ⟨Nat.le_refl _, fun j hj hn => absurd hn (by omega), Or.inr hc⟩
def insP (out : List RowS) (x : RowS) (p : Nat) : List RowS := out.take p ++ [x] ++ out.drop p
def insC (out : List RowS) (x : RowS) : Nat → Bool := fun j => decide (ltK x.f0 (keyR out j))
def insR (out : List RowS) (x : RowS) : List RowS := insP out x (scanK (insC out x) out.length)
theorem insP_len (out : List RowS) (x : RowS) (p : Nat) : (insP out x p).length = out.length + 1 := by
  unfold insP
  simp only [List.length_append, List.length_take, List.length_drop, List.length_singleton]
  omega
theorem wrapP (p : Nat) (h : p < 4611686018427387904) : wrap64 (((p + 1 : Nat) : Int) - 1) = (p : Int) := by unfold wrap64; omega
def ltR (a b : RowS) : Prop := ltK a.f0 b.f0
theorem insR_mem (out : List RowS) (x r : RowS) : r ∈ insR out x ↔ r = x ∨ r ∈ out := by
  unfold insR insP
  generalize scanK (insC out x) out.length = p
  rw [List.mem_append, List.mem_append, List.mem_singleton]
  constructor
  · rintro ((h | h) | h)
    · exact Or.inr (List.mem_of_mem_take h)
    · exact Or.inl h
    · exact Or.inr (List.mem_of_mem_drop h)
  · rintro (h | h)
    · exact Or.inl (Or.inr h)
    · rw [← List.take_append_drop p out, List.mem_append] at h
      rcases h with h | h
      · exact Or.inl (Or.inl h)
      · exact Or.inr h
theorem insR_sorted {out : List RowS} {x : RowS} (h : out.Pairwise ltR) (hne : ∀ y ∈ out, y.f0 ≠ x.f0) : (insR out x).Pairwise ltR := by
  obtain ⟨h1, h2, h3⟩ := scanK_spec (insC out x) out.length
  unfold insR insP
  generalize scanK (insC out x) out.length = p at h1 h2 h3
  have hd : ∀ b ∈ out.drop p, ltR x b := by
    intro b hb
    obtain ⟨j, hj, rfl⟩ := List.mem_iff_getElem.1 hb
    rw [List.length_drop] at hj
    rw [List.getElem_drop]
    have := of_decide_eq_true (h2 (p + j) (by omega) (by omega))
    rw [keyR_get (by omega)] at this
    exact this
  have ht : ∀ a ∈ out.take p, ltR a x := by
    intro a ha
    obtain ⟨j, hj, rfl⟩ := List.mem_iff_getElem.1 ha
    rw [List.length_take] at hj
    rw [List.getElem_take]
    rcases h3 with h3 | h3
    · omega
    · have hq := of_decide_eq_false h3
      rw [keyR_get (by omega)] at hq
      have hlast : ltR out[p - 1] x := by
        refine Classical.byContradiction fun hn => ?_
        exact hne out[p - 1] (List.getElem_mem _) (ltK_tri hn hq)
      rcases Nat.lt_or_ge j (p - 1) with hjl | hjl
      · exact ltK_trans (List.pairwise_iff_getElem.1 h j (p - 1) (by omega) (by omega) hjl) hlast
      · have : j = p - 1 := by omega
        subst this
        exact hlast
  rw [List.append_assoc, List.pairwise_append]
  refine ⟨h.sublist (List.take_sublist _ _), ?_, ?_⟩
  · rw [List.singleton_append, List.pairwise_cons]
    exact ⟨hd, h.sublist (List.drop_sublist _ _)⟩
  · intro a ha b hb
    rw [List.singleton_append, List.mem_cons] at hb
    rcases hb with rfl | hb
    · exact ht a ha
    · exact ltK_trans (ht a ha) (hd b hb)
theorem fold_sorted : ∀ (l acc : List RowS), acc.Pairwise ltR → l.Pairwise (fun a b => a.f0 ≠ b.f0) → (∀ y ∈ acc, ∀ x ∈ l, y.f0 ≠ x.f0) →
    (l.foldl insR acc).Pairwise ltR ∧ ∀ r, r ∈ l.foldl insR acc ↔ r ∈ acc ∨ r ∈ l
  | [], acc, h, _, _ => ⟨h, fun r => by simp⟩
  | x :: l, acc, h, hd, hn => by
    rw [List.pairwise_cons] at hd
    obtain ⟨i1, i2⟩ := fold_sorted l (insR acc x) (insR_sorted h (fun y hy => hn y hy x (List.mem_cons_self ..))) hd.2 (fun y hy z hz => by
      rw [insR_mem] at hy
      rcases hy with rfl | hy
      · exact hd.1 z hz
      · exact hn y hy z (List.mem_cons_of_mem _ hz))
    refine ⟨i1, fun r => ?_⟩
    rw [List.foldl_cons, i2, insR_mem, List.mem_cons]
    constructor
    · rintro ((h | h) | h)
      · exact Or.inr (Or.inl h)
      · exact Or.inl h
      · exact Or.inr (Or.inr h)
    · rintro (h | h | h)
      · exact Or.inl (Or.inr h)
      · exact Or.inl (Or.inl h)
      · exact Or.inr h
/-- A list in a strict order is told by what is in it. -/
theorem sorted_ext {α : Type} {lt : α → α → Prop} (asym : ∀ a b, lt a b → ¬ lt b a) : ∀ (l1 l2 : List α), l1.Pairwise lt → l2.Pairwise lt → (∀ r, r ∈ l1 ↔ r ∈ l2) → l1 = l2
  | [], l2, _, _, h => by
    cases l2 with
    | nil => rfl
    | cons y l2 => exact absurd ((h y).2 (List.mem_cons_self ..)) (by simp)
  | x :: l1, l2, h1, h2, h => by
    cases l2 with
    | nil => exact absurd ((h x).1 (List.mem_cons_self ..)) (by simp)
    | cons y l2 =>
      rw [List.pairwise_cons] at h1 h2
      have hxy : x = y := by
        rcases List.mem_cons.1 ((h x).1 (List.mem_cons_self ..)) with e | e
        · exact e
        · rcases List.mem_cons.1 ((h y).2 (List.mem_cons_self ..)) with e' | e'
          · exact e'.symm
          · exact absurd (h1.1 y e') (asym _ _ (h2.1 x e))
      subst hxy
      congr 1
      refine sorted_ext asym l1 l2 h1.2 h2.2 (fun r => ⟨fun hr => ?_, fun hr => ?_⟩)
      · rcases List.mem_cons.1 ((h r).1 (List.mem_cons_of_mem _ hr)) with e | e
        · subst e
          exact absurd (h1.1 r hr) (asym _ _ (h1.1 r hr))
        · exact e
      · rcases List.mem_cons.1 ((h r).2 (List.mem_cons_of_mem _ hr)) with e | e
        · subst e
          exact absurd (h2.1 r hr) (asym _ _ (h2.1 r hr))
        · exact e
end Go.Proofs.Ytaoflcmjmhfblaa.D
/- Plain laws: two lists in order gone through at once. -/
namespace Go.Proofs.Ytaoflcmjmhfblaa.D
open Go.RowKit Go.Proofs.YtaoflcmjmhfblaaW.PrintWords Go.Proofs.YtaoflcmjmhfblaaW.PrintLast Go.Proofs.YtaoflcmjmhfblaaW.PrintMore Go.Proofs.Ytaoflcmjmhfblaa.H Go.Shelf
set_option linter.unusedVariables false
set_option linter.unusedSimpArgs false
theorem cmpL_gt {a b : ByteArray} : 0 < cmpL a b ↔ ltK b a := by
  have := cmpL_neg a b
  have h2 := cmpL_lt (a := b) (b := a)
  unfold ltK
  rw [← h2]
  omega
section
variable {α β γ : Type} (ka : α → ByteArray) (kb : β → ByteArray) (kc : γ → ByteArray) (emit : Option α → Option β → List γ)
/-- What comes out of it. -/
structure Merged (a : List α) (b : List β) (M : List γ) : Prop where
  run : ∀ s : List γ, bothL ka kb (fun s ox oy => s ++ emit ox oy) a b s = s ++ M
  ord : M.Pairwise (fun r q => ltK (kc r) (kc q))
  mem : ∀ r, r ∈ M ↔ (∃ x ∈ a, (∀ y ∈ b, kb y ≠ ka x) ∧ r ∈ emit (some x) none) ∨ (∃ y ∈ b, (∀ x ∈ a, ka x ≠ kb y) ∧ r ∈ emit none (some y)) ∨ ∃ x ∈ a, ∃ y ∈ b, ka x = kb y ∧ r ∈ emit (some x) (some y)
variable {ka kb kc emit}
theorem pair_small {γ : Type} {lt : γ → γ → Prop} {l : List γ} (h : l.length ≤ 1) : l.Pairwise lt := by
  match l, h with
  | [], _ => exact List.Pairwise.nil
  | [x], _ => exact List.pairwise_singleton _ _
  | _ :: _ :: _, h => simp at h
theorem merge_ex (ha1 : ∀ x r, r ∈ emit (some x) none → kc r = ka x) (hb1 : ∀ y r, r ∈ emit none (some y) → kc r = kb y) (hc1 : ∀ x y r, ka x = kb y → r ∈ emit (some x) (some y) → kc r = kb y)
    (ha2 : ∀ x, (emit (some x) none).length ≤ 1) (hb2 : ∀ y, (emit none (some y)).length ≤ 1) (hc2 : ∀ x y, (emit (some x) (some y)).length ≤ 1) :
    ∀ (a : List α) (b : List β), a.Pairwise (fun x y => ltK (ka x) (ka y)) → b.Pairwise (fun x y => ltK (kb x) (kb y)) → ∃ M, Merged ka kb kc emit a b M
  | [], [], _, _ => ⟨[], fun s => by unfold bothL; simp, List.Pairwise.nil, fun r => by simp⟩
  | x :: a, [], h1, h2 => by
    rw [List.pairwise_cons] at h1
    obtain ⟨M, m1, m2, m3⟩ := merge_ex ha1 hb1 hc1 ha2 hb2 hc2 a [] h1.2 h2
    refine ⟨emit (some x) none ++ M, fun s => ?_, ?_, fun r => ?_⟩
    · unfold bothL; rw [m1, List.append_assoc]
    · rw [List.pairwise_append]
      refine ⟨pair_small (ha2 x), m2, fun r hr q hq => ?_⟩
      rw [ha1 x r hr]
      rw [m3] at hq
      rcases hq with ⟨z, hz, _, he⟩ | ⟨y, hy, _⟩ | ⟨z, hz, y, hy, _⟩
      · rw [ha1 z q he]; exact h1.1 z hz
      · cases hy
      · cases hy
    · rw [List.mem_append, m3]
      constructor
      · rintro (h | ⟨z, hz, hn, he⟩ | ⟨y, hy, _⟩ | ⟨z, hz, y, hy, _⟩)
        · exact Or.inl ⟨x, List.mem_cons_self .., fun y hy => (by cases hy), h⟩
        · exact Or.inl ⟨z, List.mem_cons_of_mem _ hz, hn, he⟩
        · cases hy
        · cases hy
      · rintro (⟨z, hz, hn, he⟩ | ⟨y, hy, _⟩ | ⟨z, hz, y, hy, _⟩)
        · rcases List.mem_cons.1 hz with rfl | hz
          · exact Or.inl he
          · exact Or.inr (Or.inl ⟨z, hz, hn, he⟩)
        · cases hy
        · cases hy
  | [], y :: b, h1, h2 => by
    rw [List.pairwise_cons] at h2
    obtain ⟨M, m1, m2, m3⟩ := merge_ex ha1 hb1 hc1 ha2 hb2 hc2 [] b h1 h2.2
    refine ⟨emit none (some y) ++ M, fun s => ?_, ?_, fun r => ?_⟩
    · unfold bothL; rw [m1, List.append_assoc]
    · rw [List.pairwise_append]
      refine ⟨pair_small (hb2 y), m2, fun r hr q hq => ?_⟩
      rw [hb1 y r hr]
      rw [m3] at hq
      rcases hq with ⟨z, hz, _⟩ | ⟨z, hz, _, he⟩ | ⟨z, hz, _⟩
      · cases hz
      · rw [hb1 z q he]; exact h2.1 z hz
      · cases hz
    · rw [List.mem_append, m3]
      constructor
      · rintro (h | ⟨z, hz, _⟩ | ⟨z, hz, hn, he⟩ | ⟨z, hz, _⟩)
        · exact Or.inr (Or.inl ⟨y, List.mem_cons_self .., fun x hx => (by cases hx), h⟩)
        · cases hz
        · exact Or.inr (Or.inl ⟨z, List.mem_cons_of_mem _ hz, hn, he⟩)
        · cases hz
      · rintro (⟨z, hz, _⟩ | ⟨z, hz, hn, he⟩ | ⟨z, hz, _⟩)
        · cases hz
        · rcases List.mem_cons.1 hz with rfl | hz
          · exact Or.inl he
          · exact Or.inr (Or.inr (Or.inl ⟨z, hz, hn, he⟩))
        · cases hz
  | x :: a, y :: b, h1, h2 => by
    have h1' := h1
    have h2' := h2
    rw [List.pairwise_cons] at h1 h2
    by_cases c1 : cmpL (ka x) (kb y) < 0
    · have hlt : ltK (ka x) (kb y) := cmpL_lt.1 c1
      obtain ⟨M, m1, m2, m3⟩ := merge_ex ha1 hb1 hc1 ha2 hb2 hc2 a (y :: b) h1.2 h2'
      have hxb : ∀ z ∈ y :: b, ltK (ka x) (kb z) := fun z hz => by
        rcases List.mem_cons.1 hz with rfl | hz
        · exact hlt
        · exact ltK_trans hlt (h2.1 z hz)
      have hxn : ∀ z ∈ y :: b, kb z ≠ ka x := fun z hz e => ltK_irr _ (by have := hxb z hz; rwa [e] at this)
      refine ⟨emit (some x) none ++ M, fun s => ?_, ?_, fun r => ?_⟩
      · conv => lhs; unfold bothL
        rw [if_pos c1, m1, List.append_assoc]
      · rw [List.pairwise_append]
        refine ⟨pair_small (ha2 x), m2, fun r hr q hq => ?_⟩
        rw [ha1 x r hr]
        rw [m3] at hq
        rcases hq with ⟨z, hz, _, he⟩ | ⟨z, hz, _, he⟩ | ⟨z, hz, w, hw, e, he⟩
        · rw [ha1 z q he]; exact h1.1 z hz
        · rw [hb1 z q he]; exact hxb z hz
        · rw [hc1 z w q e he]; exact hxb w hw
      · rw [List.mem_append, m3]
        constructor
        · rintro (h | ⟨z, hz, hn, he⟩ | ⟨z, hz, hn, he⟩ | ⟨z, hz, w, hw, e, he⟩)
          · exact Or.inl ⟨x, List.mem_cons_self .., hxn, h⟩
          · exact Or.inl ⟨z, List.mem_cons_of_mem _ hz, hn, he⟩
          · refine Or.inr (Or.inl ⟨z, hz, fun u hu => ?_, he⟩)
            rcases List.mem_cons.1 hu with rfl | hu
            · exact (hxn z hz).symm
            · exact hn u hu
          · exact Or.inr (Or.inr ⟨z, List.mem_cons_of_mem _ hz, w, hw, e, he⟩)
        · rintro (⟨z, hz, hn, he⟩ | ⟨z, hz, hn, he⟩ | ⟨z, hz, w, hw, e, he⟩)
          · rcases List.mem_cons.1 hz with rfl | hz
            · exact Or.inl he
            · exact Or.inr (Or.inl ⟨z, hz, hn, he⟩)
          · exact Or.inr (Or.inr (Or.inl ⟨z, hz, fun u hu => hn u (List.mem_cons_of_mem _ hu), he⟩))
          · rcases List.mem_cons.1 hz with rfl | hz
            · exact absurd e.symm (hxn w hw)
            · exact Or.inr (Or.inr (Or.inr ⟨z, hz, w, hw, e, he⟩))
    · by_cases c2 : 0 < cmpL (ka x) (kb y)
      · have hlt : ltK (kb y) (ka x) := cmpL_gt.1 c2
        obtain ⟨M, m1, m2, m3⟩ := merge_ex ha1 hb1 hc1 ha2 hb2 hc2 (x :: a) b h1' h2.2
        have hya : ∀ z ∈ x :: a, ltK (kb y) (ka z) := fun z hz => by
          rcases List.mem_cons.1 hz with rfl | hz
          · exact hlt
          · exact ltK_trans hlt (h1.1 z hz)
        have hyn : ∀ z ∈ x :: a, ka z ≠ kb y := fun z hz e => ltK_irr _ (by have := hya z hz; rwa [e] at this)
        refine ⟨emit none (some y) ++ M, fun s => ?_, ?_, fun r => ?_⟩
        · conv => lhs; unfold bothL
          rw [if_neg c1, if_pos c2, m1, List.append_assoc]
        · rw [List.pairwise_append]
          refine ⟨pair_small (hb2 y), m2, fun r hr q hq => ?_⟩
          rw [hb1 y r hr]
          rw [m3] at hq
          rcases hq with ⟨z, hz, _, he⟩ | ⟨z, hz, _, he⟩ | ⟨z, hz, w, hw, e, he⟩
          · rw [ha1 z q he]; exact hya z hz
          · rw [hb1 z q he]; exact h2.1 z hz
          · rw [hc1 z w q e he]; exact h2.1 w hw
        · rw [List.mem_append, m3]
          constructor
          · rintro (h | ⟨z, hz, hn, he⟩ | ⟨z, hz, hn, he⟩ | ⟨z, hz, w, hw, e, he⟩)
            · exact Or.inr (Or.inl ⟨y, List.mem_cons_self .., hyn, h⟩)
            · refine Or.inl ⟨z, hz, fun u hu => ?_, he⟩
              rcases List.mem_cons.1 hu with rfl | hu
              · exact (hyn z hz).symm
              · exact hn u hu
            · exact Or.inr (Or.inl ⟨z, List.mem_cons_of_mem _ hz, hn, he⟩)
            · exact Or.inr (Or.inr ⟨z, hz, w, List.mem_cons_of_mem _ hw, e, he⟩)
          · rintro (⟨z, hz, hn, he⟩ | ⟨z, hz, hn, he⟩ | ⟨z, hz, w, hw, e, he⟩)
            · exact Or.inr (Or.inl ⟨z, hz, fun u hu => hn u (List.mem_cons_of_mem _ hu), he⟩)
            · rcases List.mem_cons.1 hz with rfl | hz
              · exact Or.inl he
              · exact Or.inr (Or.inr (Or.inl ⟨z, hz, hn, he⟩))
            · rcases List.mem_cons.1 hw with rfl | hw
              · exact absurd e (hyn z hz)
              · exact Or.inr (Or.inr (Or.inr ⟨z, hz, w, hw, e, he⟩))
      · have heq : ka x = kb y := ltK_tri (fun h => c1 (cmpL_lt.2 h)) (fun h => c2 (cmpL_gt.2 h))
        obtain ⟨M, m1, m2, m3⟩ := merge_ex ha1 hb1 hc1 ha2 hb2 hc2 a b h1.2 h2.2
        have hxb : ∀ z ∈ b, kb z ≠ ka x := fun z hz e => ltK_irr _ (by have := h2.1 z hz; rwa [e, heq] at this)
        have hya : ∀ z ∈ a, ka z ≠ kb y := fun z hz e => ltK_irr _ (by have := h1.1 z hz; rwa [e, ← heq] at this)
        refine ⟨emit (some x) (some y) ++ M, fun s => ?_, ?_, fun r => ?_⟩
        · conv => lhs; unfold bothL
          rw [if_neg c1, if_neg c2, m1, List.append_assoc]
        · rw [List.pairwise_append]
          refine ⟨pair_small (hc2 x y), m2, fun r hr q hq => ?_⟩
          rw [hc1 x y r heq hr]
          rw [m3] at hq
          rcases hq with ⟨z, hz, _, he⟩ | ⟨z, hz, _, he⟩ | ⟨z, hz, w, hw, e, he⟩
          · rw [ha1 z q he, ← heq]; exact h1.1 z hz
          · rw [hb1 z q he]; exact h2.1 z hz
          · rw [hc1 z w q e he]; exact h2.1 w hw
        · rw [List.mem_append, m3]
          constructor
          · rintro (h | ⟨z, hz, hn, he⟩ | ⟨z, hz, hn, he⟩ | ⟨z, hz, w, hw, e, he⟩)
            · exact Or.inr (Or.inr ⟨x, List.mem_cons_self .., y, List.mem_cons_self .., heq, h⟩)
            · refine Or.inl ⟨z, List.mem_cons_of_mem _ hz, fun u hu => ?_, he⟩
              rcases List.mem_cons.1 hu with rfl | hu
              · exact (hya z hz).symm
              · exact hn u hu
            · refine Or.inr (Or.inl ⟨z, List.mem_cons_of_mem _ hz, fun u hu => ?_, he⟩)
              rcases List.mem_cons.1 hu with rfl | hu
              · exact (hxb z hz).symm
              · exact hn u hu
            · exact Or.inr (Or.inr ⟨z, List.mem_cons_of_mem _ hz, w, List.mem_cons_of_mem _ hw, e, he⟩)
          · rintro (⟨z, hz, hn, he⟩ | ⟨z, hz, hn, he⟩ | ⟨z, hz, w, hw, e, he⟩)
            · rcases List.mem_cons.1 hz with rfl | hz
              · exact absurd heq.symm (hn y (List.mem_cons_self ..))
              · exact Or.inr (Or.inl ⟨z, hz, fun u hu => hn u (List.mem_cons_of_mem _ hu), he⟩)
            · rcases List.mem_cons.1 hz with rfl | hz
              · exact absurd heq (hn x (List.mem_cons_self ..))
              · exact Or.inr (Or.inr (Or.inl ⟨z, hz, fun u hu => hn u (List.mem_cons_of_mem _ hu), he⟩))
            · rcases List.mem_cons.1 hz with rfl | hz
              · rcases List.mem_cons.1 hw with rfl | hw
                · exact Or.inl he
                · exact absurd e.symm (hxb w hw)
              · rcases List.mem_cons.1 hw with rfl | hw
                · exact absurd e (hya z hz)
                · exact Or.inr (Or.inr (Or.inr ⟨z, hz, w, hw, e, he⟩))
  termination_by a b => a.length + b.length
end
/-- Rows that may be are in order. -/
theorem mayR_sorted {l : List RowS} (h : mayR l = true) : l.Pairwise ltR := by
  rw [List.pairwise_iff_getElem]
  intro i j hi hj hij
  have := mayR_lt' h hij hj
  rw [cmpL_lt, keyR_get hi, keyR_get hj] at this
  exact this
theorem keyC_get {l : List ChgS} {i : Nat} (hi : i < l.length) : keyC l i = l[i].f0 := by
  unfold keyC; rw [List.getD_eq_getElem?_getD, List.getElem?_eq_getElem hi]; rfl
theorem rising_step {n : Nat} {K : Nat → ByteArray} {V : Nat → Nat} (h : risingI n K V = true) (i : Nat) (hi : i + 1 < n) : ltK (K i) (K (i + 1)) := by
  unfold risingI at h
  rw [List.all_eq_true] at h
  have := h (i + 1) (List.mem_range.2 hi)
  simp only [okAt, Bool.and_eq_true, Bool.or_eq_true, Nat.add_sub_cancel] at this
  rcases this.1.2 with h2 | h2
  · simp at h2
  · rw [less_ltK] at h2
    exact of_decide_eq_true h2
theorem rising_lt {n : Nat} {K : Nat → ByteArray} {V : Nat → Nat} (h : risingI n K V = true) : ∀ (d i : Nat), i + d + 1 < n → ltK (K i) (K (i + d + 1))
  | 0, i, hi => rising_step h i hi
  | d + 1, i, hi => ltK_trans (rising_lt h d i (by omega)) (rising_step h (i + d + 1) (by omega))
theorem mayC_sorted {l : List ChgS} (h : mayC l = true) : l.Pairwise (fun a b => ltK a.f0 b.f0) := by
  unfold mayC at h
  rw [Bool.and_eq_true] at h
  rw [List.pairwise_iff_getElem]
  intro i j hi hj hij
  have := rising_lt h.2 (j - i - 1) i (by omega)
  rw [show i + (j - i - 1) + 1 = j by omega, keyC_get hi, keyC_get hj] at this
  exact this
def emitA : Option RowS → Option ChgS → List RowS
  | some x, none => [⟨x.f0, x.f1⟩]
  | none, none => []
  | _, some y => if y.f2 then [] else [⟨y.f0, y.f1⟩]
theorem stepA_emit : stepA = fun s ox oy => s ++ emitA ox oy := by
  funext s ox oy
  cases ox <;> cases oy <;> simp only [stepA, emitA, List.append_nil] <;> split <;> simp
def emitB : Option RowS → Option RowS → List ChgS
  | some x, none => [⟨x.f0, [], true⟩]
  | none, none => []
  | none, some y => [⟨y.f0, y.f1, false⟩]
  | some x, some y => if sameB x.f1 y.f1 then [] else [⟨y.f0, y.f1, false⟩]
theorem stepB_emit : stepB = fun s ox oy => s ++ emitB ox oy := by
  funext s ox oy
  cases ox <;> cases oy <;> simp only [stepB, emitB, List.append_nil]
  split <;> simp
/-- What Apply answers. -/
theorem apply_spec {a : List RowS} {l : List ChgS} (ha : mayR a = true) (hl : mayC l = true) :
    (batch_ApplyL a l).Pairwise ltR ∧ ∀ r, r ∈ batch_ApplyL a l ↔ (r ∈ a ∧ ∀ c ∈ l, c.f0 ≠ r.f0) ∨ ∃ c ∈ l, c.f2 = false ∧ r = ⟨c.f0, c.f1⟩ := by
  obtain ⟨M, m1, m2, m3⟩ := merge_ex (ka := fun x : RowS => x.f0) (kb := fun x : ChgS => x.f0) (kc := fun x : RowS => x.f0) (emit := emitA)
    (fun x r hr => by simp only [emitA, List.mem_singleton] at hr; rw [hr])
    (fun y r hr => by simp only [emitA] at hr; split at hr <;> simp at hr; rw [hr])
    (fun x y r e hr => by simp only [emitA] at hr; split at hr <;> simp at hr; rw [hr])
    (fun x => by simp [emitA]) (fun y => by simp only [emitA]; split <;> simp) (fun x y => by simp only [emitA]; split <;> simp) a l (mayR_sorted ha) (mayC_sorted hl)
  have hM : batch_ApplyL a l = M := by
    unfold batch_ApplyL
    rw [stepA_emit, m1, List.nil_append]
  rw [hM]
  refine ⟨m2, fun r => ?_⟩
  rw [m3]
  constructor
  · rintro (⟨x, hx, hn, he⟩ | ⟨y, hy, hn, he⟩ | ⟨x, hx, y, hy, e, he⟩)
    · simp only [emitA, List.mem_singleton] at he
      subst he
      exact Or.inl ⟨hx, hn⟩
    · simp only [emitA] at he
      cases hf : y.f2 with
      | true => rw [hf] at he; simp at he
      | false => rw [hf] at he; simp at he; exact Or.inr ⟨y, hy, hf, he⟩
    · simp only [emitA] at he
      cases hf : y.f2 with
      | true => rw [hf] at he; simp at he
      | false => rw [hf] at he; simp at he; exact Or.inr ⟨y, hy, hf, he⟩
  · rintro (⟨hx, hn⟩ | ⟨c, hc, hf, rfl⟩)
    · exact Or.inl ⟨r, hx, hn, by simp [emitA]⟩
    · by_cases hex : ∃ x ∈ a, x.f0 = c.f0
      · obtain ⟨x, hx, e⟩ := hex
        exact Or.inr (Or.inr ⟨x, hx, c, hc, e, by simp [emitA, hf]⟩)
      · exact Or.inr (Or.inl ⟨c, hc, fun x hx e => hex ⟨x, hx, e⟩, by simp [emitA, hf]⟩)
/-- What Between answers. -/
theorem between_spec {a b : List RowS} (ha : mayR a = true) (hb : mayR b = true) :
    (batch_BetweenL a b).Pairwise (fun x y => ltK x.f0 y.f0) ∧ ∀ r, r ∈ batch_BetweenL a b ↔ (∃ x ∈ a, (∀ y ∈ b, y.f0 ≠ x.f0) ∧ r = ⟨x.f0, [], true⟩) ∨ (∃ y ∈ b, (∀ x ∈ a, x.f0 = y.f0 → sameB x.f1 y.f1 = false) ∧ r = ⟨y.f0, y.f1, false⟩) := by
  obtain ⟨M, m1, m2, m3⟩ := merge_ex (ka := fun x : RowS => x.f0) (kb := fun x : RowS => x.f0) (kc := fun x : ChgS => x.f0) (emit := emitB)
    (fun x r hr => by simp only [emitB, List.mem_singleton] at hr; rw [hr])
    (fun y r hr => by simp only [emitB, List.mem_singleton] at hr; rw [hr])
    (fun x y r e hr => by simp only [emitB] at hr; split at hr <;> simp at hr; rw [hr])
    (fun x => by simp [emitB]) (fun y => by simp [emitB]) (fun x y => by simp only [emitB]; split <;> simp) a b (mayR_sorted ha) (mayR_sorted hb)
  have hM : batch_BetweenL a b = M := by
    unfold batch_BetweenL
    rw [stepB_emit, m1, List.nil_append]
  rw [hM]
  refine ⟨m2, fun r => ?_⟩
  rw [m3]
  have huniq : ∀ x ∈ a, ∀ z ∈ a, x.f0 = z.f0 → x = z := by
    intro x hx z hz e
    obtain ⟨i, hi, rfl⟩ := List.mem_iff_getElem.1 hx
    obtain ⟨j, hj, rfl⟩ := List.mem_iff_getElem.1 hz
    rcases Nat.lt_trichotomy i j with h | h | h
    · have := List.pairwise_iff_getElem.1 (mayR_sorted ha) i j hi hj h
      unfold ltR at this
      rw [e] at this
      exact absurd this (ltK_irr _)
    · subst h; rfl
    · have := List.pairwise_iff_getElem.1 (mayR_sorted ha) j i hj hi h
      unfold ltR at this
      rw [e] at this
      exact absurd this (ltK_irr _)
  constructor
  · rintro (⟨x, hx, hn, he⟩ | ⟨y, hy, hn, he⟩ | ⟨x, hx, y, hy, e, he⟩)
    · simp only [emitB, List.mem_singleton] at he
      exact Or.inl ⟨x, hx, hn, he⟩
    · simp only [emitB, List.mem_singleton] at he
      exact Or.inr ⟨y, hy, fun x hx e => absurd e (hn x hx), he⟩
    · simp only [emitB] at he
      cases hf : sameB x.f1 y.f1 with
      | true => rw [hf] at he; simp at he
      | false =>
        rw [hf] at he
        simp at he
        exact Or.inr ⟨y, hy, fun z hz e2 => by rw [huniq z hz x hx (e2.trans e.symm)]; exact hf, he⟩
  · rintro (⟨x, hx, hn, he⟩ | ⟨y, hy, hn, he⟩)
    · exact Or.inl ⟨x, hx, hn, by simp [emitB, he]⟩
    · by_cases hex : ∃ x ∈ a, x.f0 = y.f0
      · obtain ⟨x, hx, e⟩ := hex
        exact Or.inr (Or.inr ⟨x, hx, y, hy, e, by simp [emitB, hn x hx e, he]⟩)
      · exact Or.inr (Or.inl ⟨y, hy, fun x hx e => hex ⟨x, hx, e⟩, by simp [emitB, he]⟩)
end Go.Proofs.Ytaoflcmjmhfblaa.D
/- Plain laws: texts that are equal; elements of lists. -/
namespace Go.Proofs.Ytaoflcmjmhfblaa.D
open Go.RowKit Go.Proofs.YtaoflcmjmhfblaaW.PrintWords Go.Proofs.YtaoflcmjmhfblaaW.PrintLast Go.Proofs.YtaoflcmjmhfblaaW.PrintMore Go.Proofs.Ytaoflcmjmhfblaa.H Go.Shelf
set_option linter.unusedVariables false
set_option linter.unusedSimpArgs false
theorem bytes_ext {a b : ByteArray} (h : a.data.toList = b.data.toList) : a = b := by
  cases a; cases b; congr; exact Array.toList_inj.1 h
theorem keq (a b : ByteArray) : (a.toList == b.toList) = decide (a = b) := by
  rw [eq_eq]
  by_cases h : a = b
  · subst h; simp
  · rw [decide_eq_false h, decide_eq_false (fun e => h (bytes_ext e))]
theorem keq' (a b : ByteArray) : (a.toList = b.toList) ↔ a = b := by
  constructor
  · intro h
    have := keq a b
    rw [beq_iff_eq.2 h] at this
    exact of_decide_eq_true this.symm
  · rintro rfl; rfl
theorem getD_at {α : Type} (l : List α) (z : α) (i : Nat) (h : i < l.length) : l.getD i z = l[i] := by
  rw [List.getD_eq_getElem?_getD, List.getElem?_eq_getElem h]; rfl
theorem drop_at {α : Type} (l : List α) (z : α) (i : Nat) (h : i < l.length) : l.drop i = l.getD i z :: l.drop (i + 1) := by
  rw [getD_at l z i h, List.drop_eq_getElem_cons h]
end Go.Proofs.Ytaoflcmjmhfblaa.D
/- Plain laws: a row by its key; rows that are the same. -/
namespace Go.Proofs.Ytaoflcmjmhfblaa.D
open Go.RowKit Go.Proofs.YtaoflcmjmhfblaaW.PrintWords Go.Proofs.YtaoflcmjmhfblaaW.PrintLast Go.Proofs.YtaoflcmjmhfblaaW.PrintMore Go.Proofs.Ytaoflcmjmhfblaa.H Go.Shelf
set_option linter.unusedVariables false
set_option linter.unusedSimpArgs false
def atK (k : ByteArray) (x : RowS) : Bool := decide (x.f0 = k)
theorem idx_cases (l : List RowS) (k : ByteArray) : (idxI (atK k) l = -1 ∧ (∀ x ∈ l, x.f0 ≠ k) ∧ findR l k = none) ∨ ∃ (i : Nat) (hi : i < l.length), idxI (atK k) l = (i : Int) ∧ l[i].f0 = k ∧ findR l k = some l[i] := by
  rcases find_idx (atK k) l with ⟨h1, h2⟩ | ⟨i, x, hi, hx, h1, h2⟩
  · left
    refine ⟨h2, fun x hx e => ?_, h1⟩
    have := List.find?_eq_none.1 h1 x hx
    exact this (decide_eq_true e)
  · right
    have e : l[i] = x := by rw [List.getElem?_eq_getElem hi] at hx; exact Option.some.inj hx
    refine ⟨i, hi, h2, ?_, by rw [e]; exact h1⟩
    have := List.find?_some h1
    rw [e]
    exact of_decide_eq_true this
theorem findR_mem {l : List RowS} (hl : mayR l = true) (k : ByteArray) : (findR l k = none ∧ ∀ x ∈ l, x.f0 ≠ k) ∨ ∃ x ∈ l, x.f0 = k ∧ findR l k = some x ∧ ∀ z ∈ l, z.f0 = k → z = x := by
  rcases idx_cases l k with ⟨_, h1, h2⟩ | ⟨i, hi, _, h1, h2⟩
  · exact Or.inl ⟨h2, h1⟩
  · refine Or.inr ⟨l[i], List.getElem_mem hi, h1, h2, fun z hz e => ?_⟩
    obtain ⟨j, hj, rfl⟩ := List.mem_iff_getElem.1 hz
    rcases Nat.lt_trichotomy i j with h | h | h
    · have := List.pairwise_iff_getElem.1 (mayR_sorted hl) i j hi hj h
      unfold ltR at this
      rw [h1, e] at this
      exact absurd this (ltK_irr _)
    · subst h; rfl
    · have := List.pairwise_iff_getElem.1 (mayR_sorted hl) j i hj hi h
      unfold ltR at this
      rw [h1, e] at this
      exact absurd this (ltK_irr _)
def betweenL (a b : List RowS) : List ChgS × Int := if mayR a && mayR b then (batch_BetweenL a b, 0) else ([], 2)
theorem same_refl (l : List Int) : cohortref00_Same.f l l = some true := by unfold cohortref00_Same.f; rw [beq_self_eq_true]
theorem rows_loop (l : List RowS) (hn : l.length < 4611686018427387904) : ∀ (d i : Nat), i + d = l.length → Ev (fun k => cohortref00_Rows.l0 k l l (i : Int)) true
  | 0, i, hi => by
    refine Ev.step (g := fun _ => some true) (fun k => ?_) (Ev.val _)
    conv => lhs; unfold cohortref00_Rows.l0
    rw [if_neg (by omega)]
  | d + 1, i, hi => by
    refine Ev.step (fun k => ?_) (rows_loop l hn d (i + 1) (by omega))
    conv => lhs; unfold cohortref00_Rows.l0
    rw [if_pos (by omega), if_pos (by omega), if_pos (by omega), if_pos rfl, same_refl, Option.bind_some, if_pos rfl, wrapN i (by omega)]
theorem rows_refl (l : List RowS) (hn : l.length < 4611686018427387904) : Ev (fun k => cohortref00_Rows.f k l l) true := by
  refine Ev.same (fun k => ?_) (rows_loop l hn l.length 0 (by omega))
  unfold cohortref00_Rows.f
  rw [if_pos rfl]
  rfl
end Go.Proofs.Ytaoflcmjmhfblaa.D
/- Plain laws: when changes may be; the way between two tables. -/
namespace Go.Proofs.Ytaoflcmjmhfblaa.D
open Go.RowKit Go.Proofs.YtaoflcmjmhfblaaW.PrintWords Go.Proofs.YtaoflcmjmhfblaaW.PrintLast Go.Proofs.YtaoflcmjmhfblaaW.PrintMore Go.Proofs.Ytaoflcmjmhfblaa.H Go.Shelf
set_option linter.unusedVariables false
set_option linter.unusedSimpArgs false
def keyOk (k : ByteArray) : Prop := k.toList.isEmpty = false ∧ k.size ≤ 16
theorem rising_key {n : Nat} {K : Nat → ByteArray} {V : Nat → Nat} (h : risingI n K V = true) (i : Nat) (hi : i < n) : keyOk (K i) := by
  unfold risingI at h
  rw [List.all_eq_true] at h
  have := h i (List.mem_range.2 hi)
  simp only [okAt, Bool.and_eq_true, decide_eq_true_eq, Bool.not_eq_true'] at this
  exact ⟨this.1.1.1, this.1.1.2⟩
theorem mayR_key {l : List RowS} (h : mayR l = true) : ∀ x ∈ l, keyOk x.f0 := by
  intro x hx
  obtain ⟨i, hi, rfl⟩ := List.mem_iff_getElem.1 hx
  have := rising_key h i hi
  rwa [keyR_get hi] at this
structure ChgOk (c : ChgS) : Prop where
  key : keyOk c.f0
  len : c.f1.length ≤ 524288
  bad : badC c = false
theorem mayC_iff (l : List ChgS) : mayC l = true ↔ (∀ c ∈ l, ChgOk c) ∧ l.Pairwise (fun a b => ltK a.f0 b.f0) := by
  constructor
  · intro h
    refine ⟨fun c hc => ?_, mayC_sorted h⟩
    have hl := mayC_len h c hc
    unfold mayC at h
    rw [Bool.and_eq_true] at h
    obtain ⟨i, hi, rfl⟩ := List.mem_iff_getElem.1 hc
    have hk := rising_key h.2 i hi
    rw [keyC_get hi] at hk
    refine ⟨hk, hl, ?_⟩
    have hb : l.any badC = false := by simpa using h.1
    rw [List.any_eq_false] at hb
    simpa using hb _ (List.getElem_mem hi)
  · rintro ⟨h1, h2⟩
    unfold mayC
    rw [Bool.and_eq_true]
    constructor
    · have : l.any badC = false := by
        rw [List.any_eq_false]
        intro c hc
        rw [(h1 c hc).bad]
        exact Bool.false_ne_true
      rw [this]; rfl
    · refine rising_true (fun i hi => ?_)
      have hc := h1 l[i] (List.getElem_mem hi)
      have e1 : (keyC l i).toList.isEmpty = false := by rw [keyC_get hi]; exact hc.key.1
      have e2 : ((keyC l i).size : Int) ≤ 16 := by rw [keyC_get hi]; have := hc.key.2; omega
      have e4 : (lenC l i : Int) ≤ 524288 := by
        have := hc.len
        unfold lenC
        rw [getD_at l _ i hi]
        omega
      refine okAt_t e1 e2 ?_ e4
      rcases Nat.eq_zero_or_pos i with h | h
      · exact Or.inl h
      · right
        rw [keyC_get hi, keyC_get (by omega), less_ltK]
        exact decide_eq_true (List.pairwise_iff_getElem.1 h2 (i - 1) i (by omega) hi (by omega))
theorem sameB_self (l : List Int) : sameB l l = true := by unfold sameB; rw [beq_self_eq_true]
theorem sameB_eq {a b : List Int} (ha : Bytes a) (hb : Bytes b) (h : sameB a b = true) : a = b := by
  unfold sameB at h
  rw [same_strs ha hb] at h
  exact of_decide_eq_true h
theorem row_uniq {l : List RowS} (h : mayR l = true) {x z : RowS} (hx : x ∈ l) (hz : z ∈ l) (e : x.f0 = z.f0) : x = z := by
  rcases findR_mem h z.f0 with ⟨_, h2⟩ | ⟨y, hy, e2, _, h2⟩
  · exact absurd e (h2 x hx)
  · rw [h2 x hx e, h2 z hz rfl]
theorem between_may {a b : List RowS} (ha : mayR a = true) (hb : mayR b = true) : mayC (batch_BetweenL a b) = true := by
  obtain ⟨s1, s2⟩ := between_spec ha hb
  rw [mayC_iff]
  refine ⟨fun c hc => ?_, s1⟩
  rcases (s2 c).1 hc with ⟨x, hx, _, rfl⟩ | ⟨y, hy, _, rfl⟩
  · exact ⟨mayR_key ha x hx, by simp, rfl⟩
  · exact ⟨mayR_key hb y hy, mayR_len hb y hy, rfl⟩
theorem apply_between {a b : List RowS} (ha : mayR a = true) (hb : mayR b = true) (hA : ∀ x ∈ a, Bytes x.f1) (hB : ∀ x ∈ b, Bytes x.f1) : batch_ApplyL a (batch_BetweenL a b) = b := by
  obtain ⟨b1, b2⟩ := between_spec ha hb
  obtain ⟨a1, a2⟩ := apply_spec ha (between_may ha hb)
  refine sorted_ext (lt := ltR) (fun _ _ h => ltK_asymm h) _ _ a1 (mayR_sorted hb) (fun r => ?_)
  rw [a2]
  constructor
  · rintro (⟨hr, hn⟩ | ⟨c, hc, hf, rfl⟩)
    · by_cases hex : ∃ y ∈ b, y.f0 = r.f0
      · obtain ⟨y, hy, e⟩ := hex
        cases hs : sameB r.f1 y.f1 with
        | true =>
          have he := sameB_eq (hA r hr) (hB y hy) hs
          have : r = y := by
            cases r; cases y
            simp only at e he
            subst e; subst he; rfl
          rw [this]; exact hy
        | false =>
          exact absurd e (hn ⟨y.f0, y.f1, false⟩ ((b2 _).2 (Or.inr ⟨y, hy, fun x hx e2 => by rw [row_uniq ha hx hr (e2.trans e)]; exact hs, rfl⟩)))
      · exact absurd rfl (hn ⟨r.f0, [], true⟩ ((b2 _).2 (Or.inl ⟨r, hr, fun y hy e => hex ⟨y, hy, e⟩, rfl⟩)))
    · rcases (b2 c).1 hc with ⟨x, hx, _, rfl⟩ | ⟨y, hy, _, rfl⟩
      · cases hf
      · exact hy
  · intro hr
    by_cases hall : ∀ x ∈ a, x.f0 = r.f0 → sameB x.f1 r.f1 = false
    · exact Or.inr ⟨⟨r.f0, r.f1, false⟩, (b2 _).2 (Or.inr ⟨r, hr, hall, rfl⟩), rfl, rfl⟩
    · left
      have hex : ∃ x ∈ a, x.f0 = r.f0 ∧ sameB x.f1 r.f1 = true := by
        refine Classical.byContradiction fun hno => hall (fun x hx e => ?_)
        cases hs : sameB x.f1 r.f1 with
        | false => rfl
        | true => exact absurd ⟨x, hx, e, hs⟩ hno
      obtain ⟨x, hx, e, hs⟩ := hex
      have he := sameB_eq (hA x hx) (hB r hr) hs
      have hxr : x = r := by
        cases x; cases r
        simp only at e he
        subst e; subst he; rfl
      rw [hxr] at hx
      refine ⟨hx, fun c hc e2 => ?_⟩
      rcases (b2 c).1 hc with ⟨z, hz, hn, rfl⟩ | ⟨y, hy, hn, rfl⟩
      · exact hn r hr e2.symm
      · have : y = r := row_uniq hb hy hr e2
        subst this
        have := hn y hx rfl
        rw [sameB_self] at this
        cases this
theorem between_self {b : List RowS} (hb : mayR b = true) : batch_BetweenL b b = [] := by
  obtain ⟨b1, b2⟩ := between_spec hb hb
  rw [List.eq_nil_iff_forall_not_mem]
  intro c hc
  rcases (b2 c).1 hc with ⟨x, hx, hn, _⟩ | ⟨y, hy, hn, _⟩
  · exact hn x hx rfl
  · have := hn y hy rfl
    rw [sameB_self] at this
    cases this
theorem bothL_len {α β γ : Type} {ka : α → ByteArray} {kb : β → ByteArray} {step : List γ → Option α → Option β → List γ} (hs : ∀ s x y, (step s x y).length ≤ s.length + 1) : ∀ (a : List α) (b : List β) (s : List γ), (bothL ka kb step a b s).length ≤ s.length + a.length + b.length
  | [], [], s => by unfold bothL; simp
  | x :: a, [], s => by
    unfold bothL
    have := bothL_len hs (ka := ka) (kb := kb) a [] (step s (some x) none)
    have := hs s (some x) none
    simp only [List.length_cons, List.length_nil] at *
    omega
  | [], y :: b, s => by
    unfold bothL
    have := bothL_len hs (ka := ka) (kb := kb) [] b (step s none (some y))
    have := hs s none (some y)
    simp only [List.length_cons, List.length_nil] at *
    omega
  | x :: a, y :: b, s => by
    unfold bothL
    split
    · have := bothL_len hs (ka := ka) (kb := kb) a (y :: b) (step s (some x) none)
      have := hs s (some x) none
      simp only [List.length_cons] at *
      omega
    · split
      · have := bothL_len hs (ka := ka) (kb := kb) (x :: a) b (step s none (some y))
        have := hs s none (some y)
        simp only [List.length_cons] at *
        omega
      · have := bothL_len hs (ka := ka) (kb := kb) a b (step s (some x) (some y))
        have := hs s (some x) (some y)
        simp only [List.length_cons] at *
        omega
  termination_by a b => a.length + b.length
theorem between_len (a b : List RowS) : (batch_BetweenL a b).length ≤ a.length + b.length := by
  have := bothL_len (ka := fun x : RowS => x.f0) (kb := fun x : RowS => x.f0) (step := stepB) (fun s x y => by cases x <;> cases y <;> simp only [stepB] <;> (try split) <;> simp) a b []
  simpa [batch_BetweenL] using this
end Go.Proofs.Ytaoflcmjmhfblaa.D
/- The law BatchWay. -/
namespace Go.Proofs.Ytaoflcmjmhfblaa.D
open Go.RowKit Go.Proofs.YtaoflcmjmhfblaaW.PrintWords Go.Proofs.YtaoflcmjmhfblaaW.PrintLast Go.Proofs.YtaoflcmjmhfblaaW.PrintMore Go.Proofs.Ytaoflcmjmhfblaa.H Go.Shelf
set_option linter.unusedVariables false
set_option linter.unusedSimpArgs false
/-- Each change is one that is needed. -/
def Needed (a : List RowS) (c : ChgS) : Prop := (c.f2 = true → ∃ x, findR a c.f0 = some x) ∧ (c.f2 = false → ∀ x, findR a c.f0 = some x → sameB x.f1 c.f1 = false)
theorem between_needed {a b : List RowS} (ha : mayR a = true) (hb : mayR b = true) : ∀ c ∈ batch_BetweenL a b, Needed a c := by
  obtain ⟨b1, b2⟩ := between_spec ha hb
  intro c hc
  rcases (b2 c).1 hc with ⟨x, hx, hn, rfl⟩ | ⟨y, hy, hn, rfl⟩
  · refine ⟨fun _ => ?_, fun h => (by cases h)⟩
    rcases findR_mem ha x.f0 with ⟨_, h2⟩ | ⟨z, hz, e, h1, _⟩
    · exact absurd rfl (h2 x hx)
    · exact ⟨z, h1⟩
  · refine ⟨fun h => (by cases h), fun _ x hx => ?_⟩
    rcases findR_mem ha y.f0 with ⟨h1, _⟩ | ⟨z, hz, e, h1, _⟩
    · rw [h1] at hx; cases hx
    · rw [h1] at hx
      obtain rfl := Option.some.inj hx
      exact hn z hz e
theorem find_way {a : List RowS} (ha : mayR a = true) (h0 : a.length ≤ 1048576) (k : ByteArray) : batch_Find.f a k = some (match findR a k with | some x => (x.f1, true) | none => ([], false)) := by
  unfold batch_Find.f
  rw [if_pos (by omega), ha]
  rfl
theorem way_loop (a : List RowS) (l : List ChgS) (ha : mayR a = true) (h0 : a.length ≤ 1048576) (hl : l.length < 4611686018427387904) (hn : ∀ c ∈ l, Needed a c) : ∀ (d i : Nat), i + d = l.length → Ev (fun k => cohortlaw09_BatchWay.l0 k a l (i : Int)) true
  | 0, i, hi => by
    refine Ev.step (g := fun _ => some true) (fun k => ?_) (Ev.val _)
    conv => lhs; unfold cohortlaw09_BatchWay.l0
    rw [if_neg (by omega)]
    rfl
  | d + 1, i, hi => by
    have hlt : i < l.length := by omega
    have ih := way_loop a l ha h0 hl hn d (i + 1) (by omega)
    obtain ⟨n1, n2⟩ := hn (l.getD i z96) (by rw [getD_at l _ i hlt]; exact List.getElem_mem hlt)
    refine Ev.step (fun k => ?_) ih
    conv => lhs; unfold cohortlaw09_BatchWay.l0
    rw [if_pos (by omega), if_pos (by omega), rd_chg, find_way ha h0, Option.bind_some, wrapN i (by omega)]
    cases hg : (l.getD i z96).f2 with
    | true =>
      obtain ⟨x, hx⟩ := n1 hg
      rw [hx]
      simp
    | false =>
      cases hx : findR a (l.getD i z96).f0 with
      | none => simp
      | some x =>
        have hs : cohortref00_Same.f x.f1 (l.getD i z96).f1 = some false := by
          have := n2 hg x hx
          unfold cohortref00_Same.f
          exact congrArg some this
        simp only [hs, Option.bind_some]
        simp
theorem way_true (a b : List RowS) (h0 : a.length ≤ 1048576) (h1 : b.length ≤ 1048576) (hA : ∀ x ∈ a, Bytes x.f1) (hB : ∀ x ∈ b, Bytes x.f1) : ∃ q, cohortlaw09_BatchWay.f q a b = some true := by
  refine Ev.one ?_
  have hbt : batch_Between.f a b = some (betweenL a b) := by
    unfold batch_Between.f betweenL
    rw [if_pos (by omega)]
    cases mayR a && mayR b <;> rfl
  have hbad : mayR a = true ∧ mayR b = true ∨ betweenL a b = ([], 2) := by
    unfold betweenL
    cases ha : mayR a with
    | false => exact Or.inr rfl
    | true =>
      cases hb : mayR b with
      | false => exact Or.inr rfl
      | true => exact Or.inl ⟨rfl, rfl⟩
  have bad : Ev (fun q => cohortlaw09_BatchWay.j0 q a b ([] : List ChgS) 2 true) true := by
    refine Ev.step (g := fun _ => some true) (fun q => ?_) (Ev.val _)
    simp [cohortlaw09_BatchWay.j0, cohortlaw09_lives.f]
  unfold cohortlaw09_BatchWay.f
  rw [hbt]
  rcases hbad with ⟨ha, hb⟩ | hb2
  · have hbl : betweenL a b = (batch_BetweenL a b, 0) := by unfold betweenL; rw [ha, hb]; rfl
    have hlen := between_len a b
    have hap : batch_Apply.f a (batch_BetweenL a b) = some (b, 0) := by
      unfold batch_Apply.f
      rw [if_pos (by omega), ha, between_may ha hb, apply_between ha hb hA hB]
      rfl
    have hbb : batch_Between.f b b = some ([], 0) := by
      unfold batch_Between.f
      rw [if_pos (by omega), hb, between_self hb]
      rfl
    have hma : batch_May.f a = some true := congrArg some ha
    have hmb : batch_May.f b = some true := congrArg some hb
    rw [hbl, hma, hmb]
    refine Ev.step (g := fun k => (cohortref00_Rows.f k b b).bind fun t302 => (if t302 = true then (cohortlaw09_BatchWay.j1 k a (batch_BetweenL a b) ((([] : List ChgS).length : Int) != 0)) else (cohortlaw09_BatchWay.j1 k a (batch_BetweenL a b) true))) (fun k => ?_) ?_
    · simp [cohortlaw09_BatchWay.j0, hap, hbb]
    · refine Ev.bind (rows_refl b (by omega)) ?_
      refine Ev.same (g := fun k => cohortlaw09_BatchWay.j1 k a (batch_BetweenL a b) false) (fun k => ?_) ?_
      · rw [if_pos rfl]
        rfl
      · refine Ev.step (g := fun k => cohortlaw09_BatchWay.l0 k a (batch_BetweenL a b) ((0 : Nat) : Int)) (fun k => ?_) (way_loop a _ ha h0 (by omega) (between_needed ha hb) _ 0 (Nat.zero_add _))
        simp [cohortlaw09_BatchWay.j1]
  · rw [hb2]
    cases hma : mayR a with
    | false =>
      have : batch_May.f a = some false := congrArg some hma
      rw [this]
      refine Ev.same (fun k => ?_) bad
      simp
    | true =>
      have : batch_May.f a = some true := congrArg some hma
      rw [this]
      cases hmb : mayR b with
      | false =>
        have : batch_May.f b = some false := congrArg some hmb
        rw [this]
        refine Ev.same (fun k => ?_) bad
        simp
      | true =>
        unfold betweenL at hb2
        rw [hma, hmb] at hb2
        have := (Prod.mk.inj hb2).2
        cases this
end Go.Proofs.Ytaoflcmjmhfblaa.D
namespace Go.Proofs.Ytaoflcmjmhfblaa.H
set_option linter.unusedVariables false
open Go.RowKit Go.Proofs.YtaoflcmjmhfblaaW.PrintWords Go.Proofs.YtaoflcmjmhfblaaW.PrintLast Go.Proofs.YtaoflcmjmhfblaaW.PrintMore Go.Proofs.Ytaoflcmjmhfblaa.D
theorem batchWay_walk {A0 A1 : Option Addr} {c0 c1 : Nat} {l0 l1 : List RowS} (w : World) (h0 : Kd.C kRow w A0 l0.length l0) (k0 : l0.length ≤ c0) (w0 : l0.length ≤ 9223372036854775807 ∧ l0.length * 40 ≤ 140737488351232 ∧ ∀ x ∈ l0, Bytes x.f1)
    (h1 : Kd.C kRow w A1 l1.length l1) (k1 : l1.length ≤ c1) (w1 : l1.length ≤ 9223372036854775807 ∧ l1.length * 40 ≤ 140737488351232 ∧ ∀ x ∈ l1, Bytes x.f1) (s0 : l0.length ≤ 1048576) (s1 : l1.length ≤ 1048576) :
    Calls Try.prog 10 #[.slice A0 l0.length c0, .slice A1 l1.length c1] w fun e w' => e = .returned (.bool true) ∧ Below w.heap.size w w' := by
  obtain ⟨q, hq⟩ := way_true l0 l1 s0 s1 w0.2.2 w1.2.2
  exact cohortlaw09_BatchWay.calls q A0 c0 l0 A1 c1 l1 true w h0 k0 h1 k1 hq
end Go.Proofs.Ytaoflcmjmhfblaa.H
