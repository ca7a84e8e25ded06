/- Plain laws: the document's May and MayChange are the program's. -/
import Derived.Test.YtaoflcmjmhfblaaBaFind
import Derived.Test.YtaoflcmjmhfblaaBaGet2
import Derived.Test.YtaoflcmjmhfblaaD3
import Derived.Test.YtaoflcmjmhfblaaD4
import Derived.Test.YtaoflcmjmhfblaaD5
import Derived.Test.YtaoflcmjmhfblaaD7
import Derived.Test.YtaoflcmjmhfblaaD8
import Derived.Test.YtaoflcmjmhfblaaBaO
import Derived.Test.YtaoflcmjmhfblaaBaLives
namespace Go.Proofs.Ytaoflcmjmhfblaa.D
open Go.RowKit Go.Proofs.YtaoflcmjmhfblaaW.PrintWords Go.Proofs.YtaoflcmjmhfblaaW.PrintLast Go.Proofs.YtaoflcmjmhfblaaW.PrintMore Go.Proofs.Ytaoflcmjmhfblaa.H Go.Shelf
set_option linter.unusedVariables false
set_option linter.unusedSimpArgs false
/-- With enough fuel it is r. -/
def Ev {α : Type} (f : Nat → Option α) (r : α) : Prop := ∃ k0, ∀ k, k0 ≤ k → f k = some r
theorem Ev.val {α : Type} (r : α) : Ev (fun _ => some r) r := ⟨0, fun _ _ => rfl⟩
theorem Ev.of {α : Type} {f : Nat → Option α} {r : α} (h : ∀ k, f k = some r) : Ev f r := ⟨0, fun k _ => h k⟩
theorem Ev.step {α : Type} {f g : Nat → Option α} {r : α} (h : ∀ k, f (k + 1) = g k) (hg : Ev g r) : Ev f r := by
  obtain ⟨k0, h0⟩ := hg
  refine ⟨k0 + 1, fun k hk => ?_⟩
  obtain ⟨j, rfl⟩ : ∃ j, k = j + 1 := ⟨k - 1, by omega⟩
  rw [h j]
  exact h0 j (by omega)
theorem Ev.same {α : Type} {f g : Nat → Option α} {r : α} (h : ∀ k, f k = g k) (hg : Ev g r) : Ev f r := by
  obtain ⟨k0, h0⟩ := hg
  exact ⟨k0, fun k hk => by rw [h k]; exact h0 k hk⟩
theorem Ev.bind {α β : Type} {f : Nat → Option α} {h : Nat → α → Option β} {a : α} {r : β} (hf : Ev f a) (hh : Ev (fun k => h k a) r) : Ev (fun k => (f k).bind (h k)) r := by
  obtain ⟨k0, h0⟩ := hf
  obtain ⟨k1, h1⟩ := hh
  refine ⟨max k0 k1, fun k hk => ?_⟩
  show (f k).bind (h k) = some r
  rw [h0 k (by omega), Option.bind_some]
  exact h1 k (by omega)
theorem Ev.one {α : Type} {f : Nat → Option α} {r : α} (h : Ev f r) : ∃ k, f k = some r := by
  obtain ⟨k0, h0⟩ := h
  exact ⟨k0, h0 k0 (Nat.le_refl _)⟩
theorem wrapN (i : Nat) (h : i < 4611686018427387904) : wrap64 ((i : Int) + 1) = ((i + 1 : Nat) : Int) := by unfold wrap64; omega
theorem size_toList (b : ByteArray) : b.toList.isEmpty = (b.size == 0) := by
  rw [ByteArray.toList_eq]
  cases b with
  | mk a =>
    cases a with
    | mk l =>
      cases l <;> rfl
theorem keyed_eq (a b : ByteArray) (c : Bool) : cohortref09_keyed.f a b c = some (!a.toList.isEmpty && decide (a.size ≤ 16) && (c || Op.bytesLess b.toList a.toList)) := by
  unfold cohortref09_keyed.f
  rw [size_toList]
  by_cases h1 : (a.size : Int) ≥ 1
  · rw [if_pos h1]
    have e1 : (a.size == 0) = false := beq_eq_false_iff_ne.2 (by omega)
    rw [e1]
    by_cases h2 : (a.size : Int) ≤ 16
    · rw [if_pos h2, decide_eq_true (show a.size ≤ 16 by omega)]
      cases c <;> simp
    · rw [if_neg h2, decide_eq_false (show ¬ a.size ≤ 16 by omega)]
      simp
  · rw [if_neg h1]
    have e1 : (a.size == 0) = true := beq_iff_eq.2 (by omega)
    rw [e1]
    rfl
theorem rd_row (l : List RowS) (i : Nat) : rd_T161 l (i : Int) = l.getD i z161 := by unfold rd_T161; rw [Int.toNat_natCast]
theorem rd_chg (l : List ChgS) (i : Nat) : rd_T96 l (i : Int) = l.getD i z96 := by unfold rd_T96; rw [Int.toNat_natCast]
theorem may_loop (l : List RowS) (hn : l.length < 4611686018427387904) : ∀ (d i : Nat) (last : ByteArray), i + d = l.length → (0 < i → last = keyR l (i - 1)) →
    Ev (fun k => cohortref09_May.l0 k l last (i : Int)) ((List.range' i d).all (okAt (keyR l) (lenR l)))
  | 0, i, last, hi, hl => by
    refine Ev.step (g := fun _ => some true) (fun k => ?_) (Ev.val _)
    show cohortref09_May.l0 (k + 1) l last i = some true
    unfold cohortref09_May.l0
    rw [if_neg (by omega)]
  | d + 1, i, last, hi, hl => by
    have ih := may_loop l hn d (i + 1) (keyR l i) (by omega) (fun _ => by rw [Nat.add_sub_cancel])
    have hk : okAt (keyR l) (lenR l) i = ((!(keyR l i).toList.isEmpty && decide ((keyR l i).size ≤ 16) && (((i : Int) == 0) || Op.bytesLess last.toList (keyR l i).toList)) && decide (lenR l i ≤ 524288)) := by
      unfold okAt
      rcases Nat.eq_zero_or_pos i with h | h
      · subst h; rfl
      · have e1 : (i == 0) = false := by simp; omega
        have e2 : ((i : Int) == 0) = false := by simp; omega
        rw [e1, e2, hl h]
    rw [List.range'_succ, List.all_cons, hk]
    refine Ev.step (g := fun k => (cohortref09_keyed.f (keyR l i) last ((i : Int) == 0)).bind fun t => (if t = true then (if (lenR l i : Int) > 524288 then (some false) else cohortref09_May.l0 k l (keyR l i) ((i + 1 : Nat) : Int)) else (some false))) (fun k => ?_) ?_
    · show cohortref09_May.l0 (k + 1) l last i = _
      conv => lhs; unfold cohortref09_May.l0
      rw [if_pos (by omega), if_pos (by omega), rd_row, wrapN i (by omega)]
      rfl
    · rw [keyed_eq]
      generalize (!(keyR l i).toList.isEmpty && decide ((keyR l i).size ≤ 16) && (((i : Int) == 0) || Op.bytesLess last.toList (keyR l i).toList)) = b
      cases b with
      | false => exact Ev.val _
      | true =>
        by_cases hv : (lenR l i : Int) > 524288
        · rw [decide_eq_false (show ¬ lenR l i ≤ 524288 by omega)]
          refine Ev.of (fun k => ?_)
          simp only [Option.bind_some]
          rw [if_pos True.intro, if_pos hv]
          rfl
        · rw [decide_eq_true (show lenR l i ≤ 524288 by omega)]
          refine Ev.same (g := fun k => cohortref09_May.l0 k l (keyR l i) ((i + 1 : Nat) : Int)) (fun k => ?_) (by simpa using ih)
          simp only [Option.bind_some]
          rw [if_pos True.intro, if_neg hv]
theorem may_eq (l : List RowS) (hn : l.length < 4611686018427387904) : Ev (fun k => cohortref09_May.f k l) (mayR l) := by
  have := may_loop l hn l.length 0 ⟨#[]⟩ (by omega) (fun h => absurd h (by omega))
  unfold mayR risingI
  rw [List.range_eq_range']
  exact this
theorem mayc_loop (l : List ChgS) (hn : l.length < 4611686018427387904) : ∀ (d i : Nat) (last : ByteArray), i + d = l.length → (0 < i → last = keyC l (i - 1)) →
    Ev (fun k => cohortref09_MayChange.l0 k l last (i : Int)) ((List.range' i d).all (fun j => okAt (keyC l) (lenC l) j && !badC (l.getD j z96)))
  | 0, i, last, hi, hl => by
    refine Ev.step (g := fun _ => some true) (fun k => ?_) (Ev.val _)
    show cohortref09_MayChange.l0 (k + 1) l last i = some true
    unfold cohortref09_MayChange.l0
    rw [if_neg (by omega)]
  | d + 1, i, last, hi, hl => by
    have ih := mayc_loop l hn d (i + 1) (keyC l i) (by omega) (fun _ => by rw [Nat.add_sub_cancel])
    have hk : okAt (keyC l) (lenC l) i = ((!(keyC l i).toList.isEmpty && decide ((keyC l i).size ≤ 16) && (((i : Int) == 0) || Op.bytesLess last.toList (keyC l i).toList)) && decide (lenC l i ≤ 524288)) := by
      unfold okAt
      rcases Nat.eq_zero_or_pos i with h | h
      · subst h; rfl
      · have e1 : (i == 0) = false := by simp; omega
        have e2 : ((i : Int) == 0) = false := by simp; omega
        rw [e1, e2, hl h]
    rw [List.range'_succ, List.all_cons, hk]
    refine Ev.step (g := fun k => (cohortref09_keyed.f (keyC l i) last ((i : Int) == 0)).bind fun t => (if t = true then (if (lenC l i : Int) > 524288 then (some false) else (if (l.getD i z96).f2 = true then (if (lenC l i : Int) > 0 then (some false) else cohortref09_MayChange.l0 k l (keyC l i) ((i + 1 : Nat) : Int)) else cohortref09_MayChange.l0 k l (keyC l i) ((i + 1 : Nat) : Int))) else (some false))) (fun k => ?_) ?_
    · show cohortref09_MayChange.l0 (k + 1) l last i = _
      conv => lhs; unfold cohortref09_MayChange.l0
      rw [if_pos (by omega), if_pos (by omega), rd_chg, wrapN i (by omega)]
      rfl
    · rw [keyed_eq]
      generalize (!(keyC l i).toList.isEmpty && decide ((keyC l i).size ≤ 16) && (((i : Int) == 0) || Op.bytesLess last.toList (keyC l i).toList)) = b
      have hbad : badC (l.getD i z96) = ((l.getD i z96).f2 && decide (0 < lenC l i)) := rfl
      rw [hbad]
      cases b with
      | false => exact Ev.val _
      | true =>
        by_cases hv : (lenC l i : Int) > 524288
        · rw [decide_eq_false (show ¬ lenC l i ≤ 524288 by omega)]
          refine Ev.of (fun k => ?_)
          simp only [Option.bind_some]
          rw [if_pos True.intro, if_pos hv]
          rfl
        · rw [decide_eq_true (show lenC l i ≤ 524288 by omega)]
          cases hf : (l.getD i z96).f2 with
          | false =>
            refine Ev.same (g := fun k => cohortref09_MayChange.l0 k l (keyC l i) ((i + 1 : Nat) : Int)) (fun k => ?_) (by simpa using ih)
            simp only [Option.bind_some]
            rw [if_pos True.intro, if_neg hv, if_neg Bool.false_ne_true]
          | true =>
            by_cases hz : (lenC l i : Int) > 0
            · rw [decide_eq_true (show 0 < lenC l i by omega)]
              refine Ev.of (fun k => ?_)
              simp only [Option.bind_some]
              rw [if_pos True.intro, if_neg hv, if_pos True.intro, if_pos hz]
              rfl
            · rw [decide_eq_false (show ¬ 0 < lenC l i by omega)]
              refine Ev.same (g := fun k => cohortref09_MayChange.l0 k l (keyC l i) ((i + 1 : Nat) : Int)) (fun k => ?_) (by simpa using ih)
              simp only [Option.bind_some]
              rw [if_pos True.intro, if_neg hv, if_pos True.intro, if_neg hz]
theorem any_range {α : Type} (p : α → Bool) (z : α) (l : List α) : l.any p = (List.range l.length).any (fun j => p (l.getD j z)) := by
  rw [Bool.eq_iff_iff, List.any_eq_true, List.any_eq_true]
  constructor
  · rintro ⟨x, hx, hp⟩
    obtain ⟨i, hi, rfl⟩ := List.mem_iff_getElem.1 hx
    exact ⟨i, List.mem_range.2 hi, by rw [List.getD_eq_getElem?_getD, List.getElem?_eq_getElem hi]; exact hp⟩
  · rintro ⟨i, hi, hp⟩
    have hi := List.mem_range.1 hi
    rw [List.getD_eq_getElem?_getD, List.getElem?_eq_getElem hi] at hp
    exact ⟨_, List.getElem_mem hi, hp⟩
theorem all_and {α : Type} (p q : α → Bool) (l : List α) : l.all (fun x => p x && !q x) = (!l.any q && l.all p) := by
  induction l with
  | nil => rfl
  | cons x l ih =>
    simp only [List.all_cons, List.any_cons, ih]
    cases p x <;> cases q x <;> cases l.any q <;> cases l.all p <;> rfl
theorem mayc_eq (l : List ChgS) (hn : l.length < 4611686018427387904) : Ev (fun k => cohortref09_MayChange.f k l) (mayC l) := by
  have h := mayc_loop l hn l.length 0 ⟨#[]⟩ (by omega) (fun h => absurd h (by omega))
  unfold mayC risingI
  rw [any_range badC z96 l, List.range_eq_range', ← all_and]
  exact h
end Go.Proofs.Ytaoflcmjmhfblaa.D
/- Plain laws: rows in order: the document's insertion, and that a list in order is one alone. -/
namespace Go.Proofs.Ytaoflcmjmhfblaa.D
open Go.RowKit Go.Proofs.YtaoflcmjmhfblaaW.PrintWords Go.Proofs.YtaoflcmjmhfblaaW.PrintLast Go.Proofs.YtaoflcmjmhfblaaW.PrintMore Go.Proofs.Ytaoflcmjmhfblaa.H Go.Shelf
set_option linter.unusedVariables false
set_option linter.unusedSimpArgs false
def ltK (a b : ByteArray) : Prop := a.data.toList < b.data.toList
theorem ltK_irr (a : ByteArray) : ¬ ltK a a := lists_irr _
theorem ltK_asymm {a b : ByteArray} (h : ltK a b) : ¬ ltK b a := lists_asymm h
theorem ltK_trans {a b c : ByteArray} (h : ltK a b) (k : ltK b c) : ltK a c := lists_trans h k
theorem ltK_tri {a b : ByteArray} (h : ¬ ltK a b) (k : ¬ ltK b a) : a = b := by
  have := lists_tri h k
  cases a; cases b; congr; exact Array.toList_inj.1 this
instance (a b : ByteArray) : Decidable (ltK a b) := by unfold ltK; infer_instance
theorem less_ltK (a b : ByteArray) : Op.bytesLess a.toList b.toList = decide (ltK a b) := less_eq a b
def scanK (c : Nat → Bool) : Nat → Nat
  | 0 => 0
  | k + 1 => if c k then scanK c k else k + 1
theorem scanK_spec (c : Nat → Bool) : ∀ n, scanK c n ≤ n ∧ (∀ j, scanK c n ≤ j → j < n → c j = true) ∧ (scanK c n = 0 ∨ c (scanK c n - 1) = false)
  | 0 => ⟨Nat.le_refl _, fun j h1 h2 => absurd h2 (by omega), Or.inl rfl⟩
  | n + 1 => by
    obtain ⟨h1, h2, h3⟩ := scanK_spec c n
    unfold scanK
    cases hc : c n with
    | true =>
      rw [if_pos rfl]
      refine ⟨by omega, fun j hj hn => ?_, h3⟩
      rcases Nat.lt_or_ge j n with h | h
      · exact h2 j hj h
      · have : j = n := by omega
        rw [this]; exact hc
    | false =>
      rw [if_neg Bool.false_ne_true]
      exact ⟨Nat.le_refl _, fun j hj hn => absurd hn (by omega), Or.inr hc⟩
def insP (out : List RowS) (x : RowS) (p : Nat) : List RowS := out.take p ++ [x] ++ out.drop p
def insC (out : List RowS) (x : RowS) : Nat → Bool := fun j => decide (ltK x.f0 (keyR out j))
def insR (out : List RowS) (x : RowS) : List RowS := insP out x (scanK (insC out x) out.length)
theorem insP_len (out : List RowS) (x : RowS) (p : Nat) : (insP out x p).length = out.length + 1 := by
  unfold insP
  simp only [List.length_append, List.length_take, List.length_drop, List.length_singleton]
  omega
theorem wrapP (p : Nat) (h : p < 4611686018427387904) : wrap64 (((p + 1 : Nat) : Int) - 1) = (p : Int) := by unfold wrap64; omega
theorem sort_l1 (x0 x3 : List RowS) (i : Nat) (r : List RowS) (hl : x3.length < 1099511627776) (hi : i < x0.length) (hin : i < 1099511627776) : ∀ p, p ≤ x3.length →
    Ev (fun k => cohortref09_sorted.l0 k x0 (insP x3 (x0.getD i z161) (scanK (insC x3 (x0.getD i z161)) p)) ((i + 1 : Nat) : Int)) r → Ev (fun k => cohortref09_sorted.l1 k x0 x3 (i : Int) (p : Int)) r
  | 0, hp, h => by
    refine Ev.step (fun k => ?_) h
    conv => lhs; unfold cohortref09_sorted.l1
    rw [if_neg (by decide), if_pos (by decide), if_pos (by omega)]
    have e0 : ((0 : Nat) : Int).toNat = 0 := rfl
    rw [e0]
    simp only [Option.bind_some, List.nil_append]
    have h1 : (x3.take 0).length ≤ x3.length := List.length_take_le' _ _
    have h2 : (x3.drop 0).length ≤ x3.length := by rw [List.length_drop]; omega
    rw [if_pos (by simp only [List.length_nil]; omega), if_pos (by omega), if_pos (by omega), if_pos (by omega), if_pos (by simp only [List.length_append, List.length_singleton]; omega), wrapN i (by omega), rd_row]
    rfl
  | p + 1, hp, h => by
    have hc : Op.bytesLess (((rd_T161 x0 (i : Int)).f0).toList) (((rd_T161 x3 (p : Int)).f0).toList) = insC x3 (x0.getD i z161) p := by
      rw [rd_row, rd_row, less_ltK]; rfl
    unfold scanK at h
    cases hb : insC x3 (x0.getD i z161) p with
    | true =>
      rw [hb, if_pos rfl] at h
      rw [hb] at hc
      refine Ev.step (fun k => ?_) (sort_l1 x0 x3 i r hl hi hin p (by omega) h)
      conv => lhs; unfold cohortref09_sorted.l1
      rw [wrapP p (by omega), hc, if_pos (by omega), if_pos (by omega), if_pos (by omega), if_pos (by omega), if_pos (by omega), if_pos rfl]
    | false =>
      rw [hb, if_neg Bool.false_ne_true] at h
      rw [hb] at hc
      refine Ev.step (fun k => ?_) h
      conv => lhs; unfold cohortref09_sorted.l1
      rw [wrapP p (by omega), hc, if_pos (by omega), if_pos (by omega), if_pos (by omega), if_pos (by omega), if_pos (by omega), if_neg Bool.false_ne_true, if_pos (by omega), if_pos (by omega)]
      simp only [Option.bind_some, Int.toNat_natCast, List.nil_append]
      have h1 : (x3.take (p + 1)).length ≤ x3.length := List.length_take_le' _ _
      have h2 : (x3.drop (p + 1)).length ≤ x3.length := by rw [List.length_drop]; omega
      rw [if_pos (by simp only [List.length_nil]; omega), if_pos (by omega), if_pos (by simp only [List.length_append, List.length_singleton]; omega), wrapN i (by omega), rd_row]
      rfl
theorem sort_l0 (x0 : List RowS) (hn : x0.length < 549755813888) : ∀ (d i : Nat) (acc : List RowS), i + d = x0.length → acc.length = i → Ev (fun k => cohortref09_sorted.l0 k x0 acc (i : Int)) ((x0.drop i).foldl insR acc)
  | 0, i, acc, hi, ha => by
    rw [List.drop_of_length_le (by omega)]
    refine Ev.step (g := fun _ => some acc) (fun k => ?_) (Ev.val _)
    conv => lhs; unfold cohortref09_sorted.l0
    rw [if_neg (by omega)]
  | d + 1, i, acc, hi, ha => by
    have hx : x0.drop i = x0.getD i z161 :: x0.drop (i + 1) := by
      rw [List.drop_eq_getElem_cons (by omega), List.getD_eq_getElem?_getD, List.getElem?_eq_getElem (by omega)]; rfl
    rw [hx, List.foldl_cons]
    have ih := sort_l0 x0 hn d (i + 1) (insR acc (x0.getD i z161)) (by omega) (by unfold insR; rw [insP_len, ha])
    refine Ev.step (fun k => ?_) (sort_l1 x0 acc i _ (by omega) (by omega) (by omega) acc.length (Nat.le_refl _) ih)
    conv => lhs; unfold cohortref09_sorted.l0
    rw [if_pos (by omega)]
theorem sorted_eq (l : List RowS) (hn : l.length < 549755813888) : Ev (fun k => cohortref09_sorted.f k l) (l.foldl insR []) := sort_l0 l hn l.length 0 [] (by omega) rfl
def ltR (a b : RowS) : Prop := ltK a.f0 b.f0
theorem insR_mem (out : List RowS) (x r : RowS) : r ∈ insR out x ↔ r = x ∨ r ∈ out := by
  unfold insR insP
  generalize scanK (insC out x) out.length = p
  rw [List.mem_append, List.mem_append, List.mem_singleton]
  constructor
  · rintro ((h | h) | h)
    · exact Or.inr (List.mem_of_mem_take h)
    · exact Or.inl h
    · exact Or.inr (List.mem_of_mem_drop h)
  · rintro (h | h)
    · exact Or.inl (Or.inr h)
    · rw [← List.take_append_drop p out, List.mem_append] at h
      rcases h with h | h
      · exact Or.inl (Or.inl h)
      · exact Or.inr h
theorem insR_sorted {out : List RowS} {x : RowS} (h : out.Pairwise ltR) (hne : ∀ y ∈ out, y.f0 ≠ x.f0) : (insR out x).Pairwise ltR := by
  obtain ⟨h1, h2, h3⟩ := scanK_spec (insC out x) out.length
  unfold insR insP
  generalize scanK (insC out x) out.length = p at h1 h2 h3
  have hd : ∀ b ∈ out.drop p, ltR x b := by
    intro b hb
    obtain ⟨j, hj, rfl⟩ := List.mem_iff_getElem.1 hb
    rw [List.length_drop] at hj
    rw [List.getElem_drop]
    have := of_decide_eq_true (h2 (p + j) (by omega) (by omega))
    rw [keyR_get (by omega)] at this
    exact this
  have ht : ∀ a ∈ out.take p, ltR a x := by
    intro a ha
    obtain ⟨j, hj, rfl⟩ := List.mem_iff_getElem.1 ha
    rw [List.length_take] at hj
    rw [List.getElem_take]
    rcases h3 with h3 | h3
    · omega
    · have hq := of_decide_eq_false h3
      rw [keyR_get (by omega)] at hq
      have hlast : ltR out[p - 1] x := by
        refine Classical.byContradiction fun hn => ?_
        exact hne out[p - 1] (List.getElem_mem _) (ltK_tri hn hq)
      rcases Nat.lt_or_ge j (p - 1) with hjl | hjl
      · exact ltK_trans (List.pairwise_iff_getElem.1 h j (p - 1) (by omega) (by omega) hjl) hlast
      · have : j = p - 1 := by omega
        subst this
        exact hlast
  rw [List.append_assoc, List.pairwise_append]
  refine ⟨h.sublist (List.take_sublist _ _), ?_, ?_⟩
  · rw [List.singleton_append, List.pairwise_cons]
    exact ⟨hd, h.sublist (List.drop_sublist _ _)⟩
  · intro a ha b hb
    rw [List.singleton_append, List.mem_cons] at hb
    rcases hb with rfl | hb
    · exact ht a ha
    · exact ltK_trans (ht a ha) (hd b hb)
theorem fold_sorted : ∀ (l acc : List RowS), acc.Pairwise ltR → l.Pairwise (fun a b => a.f0 ≠ b.f0) → (∀ y ∈ acc, ∀ x ∈ l, y.f0 ≠ x.f0) →
    (l.foldl insR acc).Pairwise ltR ∧ ∀ r, r ∈ l.foldl insR acc ↔ r ∈ acc ∨ r ∈ l
  | [], acc, h, _, _ => ⟨h, fun r => by simp⟩
  | x :: l, acc, h, hd, hn => by
    rw [List.pairwise_cons] at hd
    obtain ⟨i1, i2⟩ := fold_sorted l (insR acc x) (insR_sorted h (fun y hy => hn y hy x (List.mem_cons_self ..))) hd.2 (fun y hy z hz => by
      rw [insR_mem] at hy
      rcases hy with rfl | hy
      · exact hd.1 z hz
      · exact hn y hy z (List.mem_cons_of_mem _ hz))
    refine ⟨i1, fun r => ?_⟩
    rw [List.foldl_cons, i2, insR_mem, List.mem_cons]
    constructor
    · rintro ((h | h) | h)
      · exact Or.inr (Or.inl h)
      · exact Or.inl h
      · exact Or.inr (Or.inr h)
    · rintro (h | h | h)
      · exact Or.inl (Or.inr h)
      · exact Or.inl (Or.inl h)
      · exact Or.inr h
/-- A list in a strict order is told by what is in it. -/
theorem sorted_ext {α : Type} {lt : α → α → Prop} (asym : ∀ a b, lt a b → ¬ lt b a) : ∀ (l1 l2 : List α), l1.Pairwise lt → l2.Pairwise lt → (∀ r, r ∈ l1 ↔ r ∈ l2) → l1 = l2
  | [], l2, _, _, h => by
    cases l2 with
    | nil => rfl
    | cons y l2 => exact absurd ((h y).2 (List.mem_cons_self ..)) (by simp)
  | x :: l1, l2, h1, h2, h => by
    cases l2 with
    | nil => exact absurd ((h x).1 (List.mem_cons_self ..)) (by simp)
    | cons y l2 =>
      rw [List.pairwise_cons] at h1 h2
      have hxy : x = y := by
        rcases List.mem_cons.1 ((h x).1 (List.mem_cons_self ..)) with e | e
        · exact e
        · rcases List.mem_cons.1 ((h y).2 (List.mem_cons_self ..)) with e' | e'
          · exact e'.symm
          · exact absurd (h1.1 y e') (asym _ _ (h2.1 x e))
      subst hxy
      congr 1
      refine sorted_ext asym l1 l2 h1.2 h2.2 (fun r => ⟨fun hr => ?_, fun hr => ?_⟩)
      · rcases List.mem_cons.1 ((h r).1 (List.mem_cons_of_mem _ hr)) with e | e
        · subst e
          exact absurd (h1.1 r hr) (asym _ _ (h1.1 r hr))
        · exact e
      · rcases List.mem_cons.1 ((h r).2 (List.mem_cons_of_mem _ hr)) with e | e
        · subst e
          exact absurd (h2.1 r hr) (asym _ _ (h2.1 r hr))
        · exact e
end Go.Proofs.Ytaoflcmjmhfblaa.D
/- Plain laws: two lists in order gone through at once. -/
namespace Go.Proofs.Ytaoflcmjmhfblaa.D
open Go.RowKit Go.Proofs.YtaoflcmjmhfblaaW.PrintWords Go.Proofs.YtaoflcmjmhfblaaW.PrintLast Go.Proofs.YtaoflcmjmhfblaaW.PrintMore Go.Proofs.Ytaoflcmjmhfblaa.H Go.Shelf
set_option linter.unusedVariables false
set_option linter.unusedSimpArgs false
theorem cmpL_gt {a b : ByteArray} : 0 < cmpL a b ↔ ltK b a := by
  have := cmpL_neg a b
  have h2 := cmpL_lt (a := b) (b := a)
  unfold ltK
  rw [← h2]
  omega
section
variable {α β γ : Type} (ka : α → ByteArray) (kb : β → ByteArray) (kc : γ → ByteArray) (emit : Option α → Option β → List γ)
/-- What comes out of it. -/
structure Merged (a : List α) (b : List β) (M : List γ) : Prop where
  run : ∀ s : List γ, bothL ka kb (fun s ox oy => s ++ emit ox oy) a b s = s ++ M
  ord : M.Pairwise (fun r q => ltK (kc r) (kc q))
  mem : ∀ r, r ∈ M ↔ (∃ x ∈ a, (∀ y ∈ b, kb y ≠ ka x) ∧ r ∈ emit (some x) none) ∨ (∃ y ∈ b, (∀ x ∈ a, ka x ≠ kb y) ∧ r ∈ emit none (some y)) ∨ ∃ x ∈ a, ∃ y ∈ b, ka x = kb y ∧ r ∈ emit (some x) (some y)
variable {ka kb kc emit}
theorem pair_small {γ : Type} {lt : γ → γ → Prop} {l : List γ} (h : l.length ≤ 1) : l.Pairwise lt := by
  match l, h with
  | [], _ => exact List.Pairwise.nil
  | [x], _ => exact List.pairwise_singleton _ _
  | _ :: _ :: _, h => simp at h
theorem merge_ex (ha1 : ∀ x r, r ∈ emit (some x) none → kc r = ka x) (hb1 : ∀ y r, r ∈ emit none (some y) → kc r = kb y) (hc1 : ∀ x y r, ka x = kb y → r ∈ emit (some x) (some y) → kc r = kb y)
    (ha2 : ∀ x, (emit (some x) none).length ≤ 1) (hb2 : ∀ y, (emit none (some y)).length ≤ 1) (hc2 : ∀ x y, (emit (some x) (some y)).length ≤ 1) :
    ∀ (a : List α) (b : List β), a.Pairwise (fun x y => ltK (ka x) (ka y)) → b.Pairwise (fun x y => ltK (kb x) (kb y)) → ∃ M, Merged ka kb kc emit a b M
  | [], [], _, _ => ⟨[], fun s => by unfold bothL; simp, List.Pairwise.nil, fun r => by simp⟩
  | x :: a, [], h1, h2 => by
    rw [List.pairwise_cons] at h1
    obtain ⟨M, m1, m2, m3⟩ := merge_ex ha1 hb1 hc1 ha2 hb2 hc2 a [] h1.2 h2
    refine ⟨emit (some x) none ++ M, fun s => ?_, ?_, fun r => ?_⟩
    · unfold bothL; rw [m1, List.append_assoc]
    · rw [List.pairwise_append]
      refine ⟨pair_small (ha2 x), m2, fun r hr q hq => ?_⟩
      rw [ha1 x r hr]
      rw [m3] at hq
      rcases hq with ⟨z, hz, _, he⟩ | ⟨y, hy, _⟩ | ⟨z, hz, y, hy, _⟩
      · rw [ha1 z q he]; exact h1.1 z hz
      · cases hy
      · cases hy
    · rw [List.mem_append, m3]
      constructor
      · rintro (h | ⟨z, hz, hn, he⟩ | ⟨y, hy, _⟩ | ⟨z, hz, y, hy, _⟩)
        · exact Or.inl ⟨x, List.mem_cons_self .., fun y hy => (by cases hy), h⟩
        · exact Or.inl ⟨z, List.mem_cons_of_mem _ hz, hn, he⟩
        · cases hy
        · cases hy
      · rintro (⟨z, hz, hn, he⟩ | ⟨y, hy, _⟩ | ⟨z, hz, y, hy, _⟩)
        · rcases List.mem_cons.1 hz with rfl | hz
          · exact Or.inl he
          · exact Or.inr (Or.inl ⟨z, hz, hn, he⟩)
        · cases hy
        · cases hy
  | [], y :: b, h1, h2 => by
    rw [List.pairwise_cons] at h2
    obtain ⟨M, m1, m2, m3⟩ := merge_ex ha1 hb1 hc1 ha2 hb2 hc2 [] b h1 h2.2
    refine ⟨emit none (some y) ++ M, fun s => ?_, ?_, fun r => ?_⟩
    · unfold bothL; rw [m1, List.append_assoc]
    · rw [List.pairwise_append]
      refine ⟨pair_small (hb2 y), m2, fun r hr q hq => ?_⟩
      rw [hb1 y r hr]
      rw [m3] at hq
      rcases hq with ⟨z, hz, _⟩ | ⟨z, hz, _, he⟩ | ⟨z, hz, _⟩
      · cases hz
      · rw [hb1 z q he]; exact h2.1 z hz
      · cases hz
    · rw [List.mem_append, m3]
      constructor
      · rintro (h | ⟨z, hz, _⟩ | ⟨z, hz, hn, he⟩ | ⟨z, hz, _⟩)
        · exact Or.inr (Or.inl ⟨y, List.mem_cons_self .., fun x hx => (by cases hx), h⟩)
        · cases hz
        · exact Or.inr (Or.inl ⟨z, List.mem_cons_of_mem _ hz, hn, he⟩)
        · cases hz
      · rintro (⟨z, hz, _⟩ | ⟨z, hz, hn, he⟩ | ⟨z, hz, _⟩)
        · cases hz
        · rcases List.mem_cons.1 hz with rfl | hz
          · exact Or.inl he
          · exact Or.inr (Or.inr (Or.inl ⟨z, hz, hn, he⟩))
        · cases hz
  | x :: a, y :: b, h1, h2 => by
    have h1' := h1
    have h2' := h2
    rw [List.pairwise_cons] at h1 h2
    by_cases c1 : cmpL (ka x) (kb y) < 0
    · have hlt : ltK (ka x) (kb y) := cmpL_lt.1 c1
      obtain ⟨M, m1, m2, m3⟩ := merge_ex ha1 hb1 hc1 ha2 hb2 hc2 a (y :: b) h1.2 h2'
      have hxb : ∀ z ∈ y :: b, ltK (ka x) (kb z) := fun z hz => by
        rcases List.mem_cons.1 hz with rfl | hz
        · exact hlt
        · exact ltK_trans hlt (h2.1 z hz)
      have hxn : ∀ z ∈ y :: b, kb z ≠ ka x := fun z hz e => ltK_irr _ (by have := hxb z hz; rwa [e] at this)
      refine ⟨emit (some x) none ++ M, fun s => ?_, ?_, fun r => ?_⟩
      · conv => lhs; unfold bothL
        rw [if_pos c1, m1, List.append_assoc]
      · rw [List.pairwise_append]
        refine ⟨pair_small (ha2 x), m2, fun r hr q hq => ?_⟩
        rw [ha1 x r hr]
        rw [m3] at hq
        rcases hq with ⟨z, hz, _, he⟩ | ⟨z, hz, _, he⟩ | ⟨z, hz, w, hw, e, he⟩
        · rw [ha1 z q he]; exact h1.1 z hz
        · rw [hb1 z q he]; exact hxb z hz
        · rw [hc1 z w q e he]; exact hxb w hw
      · rw [List.mem_append, m3]
        constructor
        · rintro (h | ⟨z, hz, hn, he⟩ | ⟨z, hz, hn, he⟩ | ⟨z, hz, w, hw, e, he⟩)
          · exact Or.inl ⟨x, List.mem_cons_self .., hxn, h⟩
          · exact Or.inl ⟨z, List.mem_cons_of_mem _ hz, hn, he⟩
          · refine Or.inr (Or.inl ⟨z, hz, fun u hu => ?_, he⟩)
            rcases List.mem_cons.1 hu with rfl | hu
            · exact (hxn z hz).symm
            · exact hn u hu
          · exact Or.inr (Or.inr ⟨z, List.mem_cons_of_mem _ hz, w, hw, e, he⟩)
        · rintro (⟨z, hz, hn, he⟩ | ⟨z, hz, hn, he⟩ | ⟨z, hz, w, hw, e, he⟩)
          · rcases List.mem_cons.1 hz with rfl | hz
            · exact Or.inl he
            · exact Or.inr (Or.inl ⟨z, hz, hn, he⟩)
          · exact Or.inr (Or.inr (Or.inl ⟨z, hz, fun u hu => hn u (List.mem_cons_of_mem _ hu), he⟩))
          · rcases List.mem_cons.1 hz with rfl | hz
            · exact absurd e.symm (hxn w hw)
            · exact Or.inr (Or.inr (Or.inr ⟨z, hz, w, hw, e, he⟩))
    · by_cases c2 : 0 < cmpL (ka x) (kb y)
      · have hlt : ltK (kb y) (ka x) := cmpL_gt.1 c2
        obtain ⟨M, m1, m2, m3⟩ := merge_ex ha1 hb1 hc1 ha2 hb2 hc2 (x :: a) b h1' h2.2
        have hya : ∀ z ∈ x :: a, ltK (kb y) (ka z) := fun z hz => by
          rcases List.mem_cons.1 hz with rfl | hz
          · exact hlt
          · exact ltK_trans hlt (h1.1 z hz)
        have hyn : ∀ z ∈ x :: a, ka z ≠ kb y := fun z hz e => ltK_irr _ (by have := hya z hz; rwa [e] at this)
        refine ⟨emit none (some y) ++ M, fun s => ?_, ?_, fun r => ?_⟩
        · conv => lhs; unfold bothL
          rw [if_neg c1, if_pos c2, m1, List.append_assoc]
        · rw [List.pairwise_append]
          refine ⟨pair_small (hb2 y), m2, fun r hr q hq => ?_⟩
          rw [hb1 y r hr]
          rw [m3] at hq
          rcases hq with ⟨z, hz, _, he⟩ | ⟨z, hz, _, he⟩ | ⟨z, hz, w, hw, e, he⟩
          · rw [ha1 z q he]; exact hya z hz
          · rw [hb1 z q he]; exact h2.1 z hz
          · rw [hc1 z w q e he]; exact h2.1 w hw
        · rw [List.mem_append, m3]
          constructor
          · rintro (h | ⟨z, hz, hn, he⟩ | ⟨z, hz, hn, he⟩ | ⟨z, hz, w, hw, e, he⟩)
            · exact Or.inr (Or.inl ⟨y, List.mem_cons_self .., hyn, h⟩)
            · refine Or.inl ⟨z, hz, fun u hu => ?_, he⟩
              rcases List.mem_cons.1 hu with rfl | hu
              · exact (hyn z hz).symm
              · exact hn u hu
            · exact Or.inr (Or.inl ⟨z, List.mem_cons_of_mem _ hz, hn, he⟩)
            · exact Or.inr (Or.inr ⟨z, hz, w, List.mem_cons_of_mem _ hw, e, he⟩)
          · rintro (⟨z, hz, hn, he⟩ | ⟨z, hz, hn, he⟩ | ⟨z, hz, w, hw, e, he⟩)
            · exact Or.inr (Or.inl ⟨z, hz, fun u hu => hn u (List.mem_cons_of_mem _ hu), he⟩)
            · rcases List.mem_cons.1 hz with rfl | hz
              · exact Or.inl he
              · exact Or.inr (Or.inr (Or.inl ⟨z, hz, hn, he⟩))
            · rcases List.mem_cons.1 hw with rfl | hw
              · exact absurd e (hyn z hz)
              · exact Or.inr (Or.inr (Or.inr ⟨z, hz, w, hw, e, he⟩))
      · have heq : ka x = kb y := ltK_tri (fun h => c1 (cmpL_lt.2 h)) (fun h => c2 (cmpL_gt.2 h))
        obtain ⟨M, m1, m2, m3⟩ := merge_ex ha1 hb1 hc1 ha2 hb2 hc2 a b h1.2 h2.2
        have hxb : ∀ z ∈ b, kb z ≠ ka x := fun z hz e => ltK_irr _ (by have := h2.1 z hz; rwa [e, heq] at this)
        have hya : ∀ z ∈ a, ka z ≠ kb y := fun z hz e => ltK_irr _ (by have := h1.1 z hz; rwa [e, ← heq] at this)
        refine ⟨emit (some x) (some y) ++ M, fun s => ?_, ?_, fun r => ?_⟩
        · conv => lhs; unfold bothL
          rw [if_neg c1, if_neg c2, m1, List.append_assoc]
        · rw [List.pairwise_append]
          refine ⟨pair_small (hc2 x y), m2, fun r hr q hq => ?_⟩
          rw [hc1 x y r heq hr]
          rw [m3] at hq
          rcases hq with ⟨z, hz, _, he⟩ | ⟨z, hz, _, he⟩ | ⟨z, hz, w, hw, e, he⟩
          · rw [ha1 z q he, ← heq]; exact h1.1 z hz
          · rw [hb1 z q he]; exact h2.1 z hz
          · rw [hc1 z w q e he]; exact h2.1 w hw
        · rw [List.mem_append, m3]
          constructor
          · rintro (h | ⟨z, hz, hn, he⟩ | ⟨z, hz, hn, he⟩ | ⟨z, hz, w, hw, e, he⟩)
            · exact Or.inr (Or.inr ⟨x, List.mem_cons_self .., y, List.mem_cons_self .., heq, h⟩)
            · refine Or.inl ⟨z, List.mem_cons_of_mem _ hz, fun u hu => ?_, he⟩
              rcases List.mem_cons.1 hu with rfl | hu
              · exact (hya z hz).symm
              · exact hn u hu
            · refine Or.inr (Or.inl ⟨z, List.mem_cons_of_mem _ hz, fun u hu => ?_, he⟩)
              rcases List.mem_cons.1 hu with rfl | hu
              · exact (hxb z hz).symm
              · exact hn u hu
            · exact Or.inr (Or.inr ⟨z, List.mem_cons_of_mem _ hz, w, List.mem_cons_of_mem _ hw, e, he⟩)
          · rintro (⟨z, hz, hn, he⟩ | ⟨z, hz, hn, he⟩ | ⟨z, hz, w, hw, e, he⟩)
            · rcases List.mem_cons.1 hz with rfl | hz
              · exact absurd heq.symm (hn y (List.mem_cons_self ..))
              · exact Or.inr (Or.inl ⟨z, hz, fun u hu => hn u (List.mem_cons_of_mem _ hu), he⟩)
            · rcases List.mem_cons.1 hz with rfl | hz
              · exact absurd heq (hn x (List.mem_cons_self ..))
              · exact Or.inr (Or.inr (Or.inl ⟨z, hz, fun u hu => hn u (List.mem_cons_of_mem _ hu), he⟩))
            · rcases List.mem_cons.1 hz with rfl | hz
              · rcases List.mem_cons.1 hw with rfl | hw
                · exact Or.inl he
                · exact absurd e.symm (hxb w hw)
              · rcases List.mem_cons.1 hw with rfl | hw
                · exact absurd e (hya z hz)
                · exact Or.inr (Or.inr (Or.inr ⟨z, hz, w, hw, e, he⟩))
  termination_by a b => a.length + b.length
end
/-- Rows that may be are in order. -/
theorem mayR_sorted {l : List RowS} (h : mayR l = true) : l.Pairwise ltR := by
  rw [List.pairwise_iff_getElem]
  intro i j hi hj hij
  have := mayR_lt' h hij hj
  rw [cmpL_lt, keyR_get hi, keyR_get hj] at this
  exact this
theorem keyC_get {l : List ChgS} {i : Nat} (hi : i < l.length) : keyC l i = l[i].f0 := by
  unfold keyC; rw [List.getD_eq_getElem?_getD, List.getElem?_eq_getElem hi]; rfl
theorem rising_step {n : Nat} {K : Nat → ByteArray} {V : Nat → Nat} (h : risingI n K V = true) (i : Nat) (hi : i + 1 < n) : ltK (K i) (K (i + 1)) := by
  unfold risingI at h
  rw [List.all_eq_true] at h
  have := h (i + 1) (List.mem_range.2 hi)
  simp only [okAt, Bool.and_eq_true, Bool.or_eq_true, Nat.add_sub_cancel] at this
  rcases this.1.2 with h2 | h2
  · simp at h2
  · rw [less_ltK] at h2
    exact of_decide_eq_true h2
theorem rising_lt {n : Nat} {K : Nat → ByteArray} {V : Nat → Nat} (h : risingI n K V = true) : ∀ (d i : Nat), i + d + 1 < n → ltK (K i) (K (i + d + 1))
  | 0, i, hi => rising_step h i hi
  | d + 1, i, hi => ltK_trans (rising_lt h d i (by omega)) (rising_step h (i + d + 1) (by omega))
theorem mayC_sorted {l : List ChgS} (h : mayC l = true) : l.Pairwise (fun a b => ltK a.f0 b.f0) := by
  unfold mayC at h
  rw [Bool.and_eq_true] at h
  rw [List.pairwise_iff_getElem]
  intro i j hi hj hij
  have := rising_lt h.2 (j - i - 1) i (by omega)
  rw [show i + (j - i - 1) + 1 = j by omega, keyC_get hi, keyC_get hj] at this
  exact this
def emitA : Option RowS → Option ChgS → List RowS
  | some x, none => [⟨x.f0, x.f1⟩]
  | none, none => []
  | _, some y => if y.f2 then [] else [⟨y.f0, y.f1⟩]
theorem stepA_emit : stepA = fun s ox oy => s ++ emitA ox oy := by
  funext s ox oy
  cases ox <;> cases oy <;> simp only [stepA, emitA, List.append_nil] <;> split <;> simp
def emitB : Option RowS → Option RowS → List ChgS
  | some x, none => [⟨x.f0, [], true⟩]
  | none, none => []
  | none, some y => [⟨y.f0, y.f1, false⟩]
  | some x, some y => if sameB x.f1 y.f1 then [] else [⟨y.f0, y.f1, false⟩]
theorem stepB_emit : stepB = fun s ox oy => s ++ emitB ox oy := by
  funext s ox oy
  cases ox <;> cases oy <;> simp only [stepB, emitB, List.append_nil]
  split <;> simp
/-- What Apply answers. -/
theorem apply_spec {a : List RowS} {l : List ChgS} (ha : mayR a = true) (hl : mayC l = true) :
    (batch_ApplyL a l).Pairwise ltR ∧ ∀ r, r ∈ batch_ApplyL a l ↔ (r ∈ a ∧ ∀ c ∈ l, c.f0 ≠ r.f0) ∨ ∃ c ∈ l, c.f2 = false ∧ r = ⟨c.f0, c.f1⟩ := by
  obtain ⟨M, m1, m2, m3⟩ := merge_ex (ka := fun x : RowS => x.f0) (kb := fun x : ChgS => x.f0) (kc := fun x : RowS => x.f0) (emit := emitA)
    (fun x r hr => by simp only [emitA, List.mem_singleton] at hr; rw [hr])
    (fun y r hr => by simp only [emitA] at hr; split at hr <;> simp at hr; rw [hr])
    (fun x y r e hr => by simp only [emitA] at hr; split at hr <;> simp at hr; rw [hr])
    (fun x => by simp [emitA]) (fun y => by simp only [emitA]; split <;> simp) (fun x y => by simp only [emitA]; split <;> simp) a l (mayR_sorted ha) (mayC_sorted hl)
  have hM : batch_ApplyL a l = M := by
    unfold batch_ApplyL
    rw [stepA_emit, m1, List.nil_append]
  rw [hM]
  refine ⟨m2, fun r => ?_⟩
  rw [m3]
  constructor
  · rintro (⟨x, hx, hn, he⟩ | ⟨y, hy, hn, he⟩ | ⟨x, hx, y, hy, e, he⟩)
    · simp only [emitA, List.mem_singleton] at he
      subst he
      exact Or.inl ⟨hx, hn⟩
    · simp only [emitA] at he
      cases hf : y.f2 with
      | true => rw [hf] at he; simp at he
      | false => rw [hf] at he; simp at he; exact Or.inr ⟨y, hy, hf, he⟩
    · simp only [emitA] at he
      cases hf : y.f2 with
      | true => rw [hf] at he; simp at he
      | false => rw [hf] at he; simp at he; exact Or.inr ⟨y, hy, hf, he⟩
  · rintro (⟨hx, hn⟩ | ⟨c, hc, hf, rfl⟩)
    · exact Or.inl ⟨r, hx, hn, by simp [emitA]⟩
    · by_cases hex : ∃ x ∈ a, x.f0 = c.f0
      · obtain ⟨x, hx, e⟩ := hex
        exact Or.inr (Or.inr ⟨x, hx, c, hc, e, by simp [emitA, hf]⟩)
      · exact Or.inr (Or.inl ⟨c, hc, fun x hx e => hex ⟨x, hx, e⟩, by simp [emitA, hf]⟩)
/-- What Between answers. -/
theorem between_spec {a b : List RowS} (ha : mayR a = true) (hb : mayR b = true) :
    (batch_BetweenL a b).Pairwise (fun x y => ltK x.f0 y.f0) ∧ ∀ r, r ∈ batch_BetweenL a b ↔ (∃ x ∈ a, (∀ y ∈ b, y.f0 ≠ x.f0) ∧ r = ⟨x.f0, [], true⟩) ∨ (∃ y ∈ b, (∀ x ∈ a, x.f0 = y.f0 → sameB x.f1 y.f1 = false) ∧ r = ⟨y.f0, y.f1, false⟩) := by
  obtain ⟨M, m1, m2, m3⟩ := merge_ex (ka := fun x : RowS => x.f0) (kb := fun x : RowS => x.f0) (kc := fun x : ChgS => x.f0) (emit := emitB)
    (fun x r hr => by simp only [emitB, List.mem_singleton] at hr; rw [hr])
    (fun y r hr => by simp only [emitB, List.mem_singleton] at hr; rw [hr])
    (fun x y r e hr => by simp only [emitB] at hr; split at hr <;> simp at hr; rw [hr])
    (fun x => by simp [emitB]) (fun y => by simp [emitB]) (fun x y => by simp only [emitB]; split <;> simp) a b (mayR_sorted ha) (mayR_sorted hb)
  have hM : batch_BetweenL a b = M := by
    unfold batch_BetweenL
    rw [stepB_emit, m1, List.nil_append]
  rw [hM]
  refine ⟨m2, fun r => ?_⟩
  rw [m3]
  have huniq : ∀ x ∈ a, ∀ z ∈ a, x.f0 = z.f0 → x = z := by
    intro x hx z hz e
    obtain ⟨i, hi, rfl⟩ := List.mem_iff_getElem.1 hx
    obtain ⟨j, hj, rfl⟩ := List.mem_iff_getElem.1 hz
    rcases Nat.lt_trichotomy i j with h | h | h
    · have := List.pairwise_iff_getElem.1 (mayR_sorted ha) i j hi hj h
      unfold ltR at this
      rw [e] at this
      exact absurd this (ltK_irr _)
    · subst h; rfl
    · have := List.pairwise_iff_getElem.1 (mayR_sorted ha) j i hj hi h
      unfold ltR at this
      rw [e] at this
      exact absurd this (ltK_irr _)
  constructor
  · rintro (⟨x, hx, hn, he⟩ | ⟨y, hy, hn, he⟩ | ⟨x, hx, y, hy, e, he⟩)
    · simp only [emitB, List.mem_singleton] at he
      exact Or.inl ⟨x, hx, hn, he⟩
    · simp only [emitB, List.mem_singleton] at he
      exact Or.inr ⟨y, hy, fun x hx e => absurd e (hn x hx), he⟩
    · simp only [emitB] at he
      cases hf : sameB x.f1 y.f1 with
      | true => rw [hf] at he; simp at he
      | false =>
        rw [hf] at he
        simp at he
        exact Or.inr ⟨y, hy, fun z hz e2 => by rw [huniq z hz x hx (e2.trans e.symm)]; exact hf, he⟩
  · rintro (⟨x, hx, hn, he⟩ | ⟨y, hy, hn, he⟩)
    · exact Or.inl ⟨x, hx, hn, by simp [emitB, he]⟩
    · by_cases hex : ∃ x ∈ a, x.f0 = y.f0
      · obtain ⟨x, hx, e⟩ := hex
        exact Or.inr (Or.inr ⟨x, hx, y, hy, e, by simp [emitB, hn x hx e, he]⟩)
      · exact Or.inr (Or.inl ⟨y, hy, fun x hx e => hex ⟨x, hx, e⟩, by simp [emitB, he]⟩)
end Go.Proofs.Ytaoflcmjmhfblaa.D
/- Plain laws: the document's Apply, Between, Find are the program's. -/
namespace Go.Proofs.Ytaoflcmjmhfblaa.D
open Go.RowKit Go.Proofs.YtaoflcmjmhfblaaW.PrintWords Go.Proofs.YtaoflcmjmhfblaaW.PrintLast Go.Proofs.YtaoflcmjmhfblaaW.PrintMore Go.Proofs.Ytaoflcmjmhfblaa.H Go.Shelf
set_option linter.unusedVariables false
set_option linter.unusedSimpArgs false
theorem copy_eq (l : List Int) (h : l.length ≤ 524288) : cohortref00_Copy.f l = some l := by
  unfold cohortref00_Copy.f
  rw [if_pos (by simp only [List.length_nil]; omega), List.nil_append]
theorem bytes_ext {a b : ByteArray} (h : a.data.toList = b.data.toList) : a = b := by
  cases a; cases b; congr; exact Array.toList_inj.1 h
theorem keq (a b : ByteArray) : (a.toList == b.toList) = decide (a = b) := by
  rw [eq_eq]
  by_cases h : a = b
  · subst h; simp
  · rw [decide_eq_false h, decide_eq_false (fun e => h (bytes_ext e))]
theorem keq' (a b : ByteArray) : (a.toList = b.toList) ↔ a = b := by
  constructor
  · intro h
    have := keq a b
    rw [beq_iff_eq.2 h] at this
    exact of_decide_eq_true this.symm
  · rintro rfl; rfl
theorem getD_at {α : Type} (l : List α) (z : α) (i : Nat) (h : i < l.length) : l.getD i z = l[i] := by
  rw [List.getD_eq_getElem?_getD, List.getElem?_eq_getElem h]; rfl
theorem drop_at {α : Type} (l : List α) (z : α) (i : Nat) (h : i < l.length) : l.drop i = l.getD i z :: l.drop (i + 1) := by
  rw [getD_at l z i h, List.drop_eq_getElem_cons h]
def hasK (l : List ChgS) (k : ByteArray) : Bool := l.any (fun c => decide (c.f0 = k))
def keepA (t : List RowS) (l : List ChgS) : List RowS := t.filter (fun x => !hasK l x.f0)
def putsA (l : List ChgS) : List RowS := (l.filter (fun c => !c.f2)).map (fun c => ⟨c.f0, c.f1⟩)
theorem apply_l1 (x0 : List RowS) (x1 : List ChgS) (x6 : List RowS) (i : Nat) (hi : i < x0.length) (h0 : x0.length ≤ 300) (h1 : x1.length ≤ 300) (h6 : x6.length ≤ 300) (hv : (x0.getD i z161).f1.length ≤ 524288) (r : List RowS × Int) : ∀ (d j : Nat) (seen : Bool), j + d = x1.length →
    Ev (fun k => cohortref09_Apply.l0 k x0 x1 (x6 ++ (if (seen || hasK (x1.drop j) (x0.getD i z161).f0) then [] else [x0.getD i z161])) ((i + 1 : Nat) : Int)) r → Ev (fun k => cohortref09_Apply.l1 k x0 x1 x6 (i : Int) seen (j : Int)) r
  | 0, j, seen, hj, h => by
    have hd : x1.drop j = [] := List.drop_of_length_le (by omega)
    rw [hd] at h
    cases seen with
    | true =>
      refine Ev.step (fun k => ?_) h
      conv => lhs; unfold cohortref09_Apply.l1
      rw [if_neg (by omega), if_pos rfl, wrapN i (by omega)]
      simp
    | false =>
      refine Ev.step (fun k => ?_) h
      conv => lhs; unfold cohortref09_Apply.l1
      rw [if_neg (by omega), if_neg Bool.false_ne_true, if_pos (by omega), if_pos (by omega), rd_row, copy_eq _ hv, Option.bind_some, if_pos (by omega), wrapN i (by omega)]
      rfl
  | d + 1, j, seen, hj, h => by
    have hd := drop_at x1 z96 j (by omega)
    rw [hd] at h
    cases seen with
    | true =>
      refine Ev.step (fun k => ?_) (apply_l1 x0 x1 x6 i hi h0 h1 h6 hv r d (j + 1) true (by omega) (by simpa using h))
      conv => lhs; unfold cohortref09_Apply.l1
      rw [if_pos (by omega), if_pos rfl, wrapN j (by omega)]
    | false =>
      have hs : (false || hasK (x1.getD j z96 :: x1.drop (j + 1)) (x0.getD i z161).f0) = (decide ((x1.getD j z96).f0 = (x0.getD i z161).f0) || hasK (x1.drop (j + 1)) (x0.getD i z161).f0) := by unfold hasK; rw [List.any_cons, Bool.false_or]
      rw [hs] at h
      refine Ev.step (fun k => ?_) (apply_l1 x0 x1 x6 i hi h0 h1 h6 hv r d (j + 1) _ (by omega) h)
      conv => lhs; unfold cohortref09_Apply.l1
      rw [if_pos (by omega), if_neg Bool.false_ne_true, if_pos (by omega), if_pos (by omega), if_pos (by omega), wrapN j (by omega), rd_row, rd_chg, keq]
theorem apply_l2 (x1 : List ChgS) (h1 : x1.length ≤ 300) (hv : ∀ c ∈ x1, c.f1.length ≤ 524288) (s : List RowS) : ∀ (d j : Nat) (acc : List RowS), j + d = x1.length → acc.length + d ≤ 600 →
    Ev (fun k => cohortref09_sorted.f k (acc ++ putsA (x1.drop j))) s → Ev (fun k => cohortref09_Apply.l2 k x1 acc (j : Int)) (s, 0)
  | 0, j, acc, hj, ha, h => by
    have hd : x1.drop j = [] := List.drop_of_length_le (by omega)
    rw [hd] at h
    refine Ev.step (g := fun k => (cohortref09_sorted.f k acc).bind fun t => some (t, 0)) (fun k => ?_) (Ev.bind (by simpa [putsA] using h) (Ev.val _))
    conv => lhs; unfold cohortref09_Apply.l2
    rw [if_neg (by omega)]
  | d + 1, j, acc, hj, ha, h => by
    have hlt : j < x1.length := by omega
    have hd := drop_at x1 z96 j hlt
    have hvv := hv (x1.getD j z96) (by rw [getD_at x1 _ j hlt]; exact List.getElem_mem hlt)
    rw [hd] at h
    obtain ⟨y, hy⟩ : ∃ y, x1.getD j z96 = y := ⟨_, rfl⟩
    rw [hy] at h hvv
    cases hf : y.f2 with
    | true =>
      refine Ev.step (fun k => ?_) (apply_l2 x1 h1 hv s d (j + 1) acc (by omega) (by omega) (by simpa [putsA, hf] using h))
      conv => lhs; unfold cohortref09_Apply.l2
      rw [if_pos (by omega), if_pos (by omega), rd_chg, hy, hf, if_pos rfl, wrapN j (by omega)]
    | false =>
      refine Ev.step (fun k => ?_) (apply_l2 x1 h1 hv s d (j + 1) (acc ++ [⟨y.f0, y.f1⟩]) (by omega) (by simp; omega) (by simpa [putsA, hf] using h))
      conv => lhs; unfold cohortref09_Apply.l2
      rw [if_pos (by omega), if_pos (by omega), rd_chg, hy, hf, if_neg Bool.false_ne_true, copy_eq _ hvv, Option.bind_some, if_pos (by omega), wrapN j (by omega)]
theorem apply_l0 (x0 : List RowS) (x1 : List ChgS) (h0 : x0.length ≤ 300) (h1 : x1.length ≤ 300) (hv : ∀ x ∈ x0, x.f1.length ≤ 524288) (r : List RowS × Int) : ∀ (d i : Nat) (acc : List RowS), i + d = x0.length → acc.length ≤ i →
    Ev (fun k => cohortref09_Apply.l2 k x1 (acc ++ keepA (x0.drop i) x1) 0) r → Ev (fun k => cohortref09_Apply.l0 k x0 x1 acc (i : Int)) r
  | 0, i, acc, hi, ha, h => by
    have hd : x0.drop i = [] := List.drop_of_length_le (by omega)
    rw [hd] at h
    refine Ev.step (fun k => ?_) h
    conv => lhs; unfold cohortref09_Apply.l0
    rw [if_neg (by omega)]
    simp [keepA]
  | d + 1, i, acc, hi, ha, h => by
    have hlt : i < x0.length := by omega
    have hd := drop_at x0 z161 i hlt
    have hvv := hv (x0.getD i z161) (by rw [getD_at x0 _ i hlt]; exact List.getElem_mem hlt)
    rw [hd] at h
    obtain ⟨y, hy⟩ : ∃ y, x0.getD i z161 = y := ⟨_, rfl⟩
    rw [hy] at h
    have ih := apply_l0 x0 x1 h0 h1 hv r d (i + 1) (acc ++ (if (false || hasK (x1.drop 0) y.f0) then [] else [y])) (by omega) (by rw [List.length_append]; split <;> simp <;> omega) (by
      cases hk : hasK x1 y.f0 with
      | true => simpa [keepA, hk] using h
      | false => simpa [keepA, hk] using h)
    refine Ev.step (fun k => ?_) (apply_l1 x0 x1 acc i hlt h0 h1 (by omega) hvv r x1.length 0 false (by omega) (by rw [hy]; exact ih))
    conv => lhs; unfold cohortref09_Apply.l0
    rw [if_pos (by omega)]
    rfl
theorem keep_len (t : List RowS) (l : List ChgS) : (keepA t l).length ≤ t.length := List.length_filter_le _ _
theorem puts_len (l : List ChgS) : (putsA l).length ≤ l.length := by unfold putsA; rw [List.length_map]; exact List.length_filter_le _ _
theorem hasK_iff (l : List ChgS) (k : ByteArray) : hasK l k = false ↔ ∀ c ∈ l, c.f0 ≠ k := by
  unfold hasK
  rw [List.any_eq_false]
  constructor
  · intro h c hc e; exact h c hc (decide_eq_true e)
  · intro h c hc e; exact h c hc (of_decide_eq_true e)
theorem sort_apply {a : List RowS} {l : List ChgS} (ha : mayR a = true) (hl : mayC l = true) : (keepA a l ++ putsA l).foldl insR [] = batch_ApplyL a l := by
  obtain ⟨s1, s2⟩ := apply_spec ha hl
  have hd : (keepA a l ++ putsA l).Pairwise (fun x y => x.f0 ≠ y.f0) := by
    rw [List.pairwise_append]
    refine ⟨?_, ?_, ?_⟩
    · refine List.Pairwise.imp ?_ ((mayR_sorted ha).sublist List.filter_sublist)
      intro x y h e
      unfold ltR at h
      rw [e] at h
      exact ltK_irr _ h
    · unfold putsA
      rw [List.pairwise_map]
      refine List.Pairwise.imp ?_ ((mayC_sorted hl).sublist List.filter_sublist)
      intro x y h e
      simp only at e
      rw [e] at h
      exact ltK_irr _ h
    · intro x hx y hy e
      unfold keepA at hx
      rw [List.mem_filter] at hx
      have hk : hasK l x.f0 = false := by simpa using hx.2
      unfold putsA at hy
      rw [List.mem_map] at hy
      obtain ⟨c, hc, rfl⟩ := hy
      exact (hasK_iff l x.f0).1 hk c (List.mem_filter.1 hc).1 e.symm
  obtain ⟨f1, f2⟩ := fold_sorted (keepA a l ++ putsA l) [] List.Pairwise.nil hd (fun y hy => by cases hy)
  refine sorted_ext (lt := ltR) (fun _ _ h => ltK_asymm h) _ _ f1 s1 (fun r => ?_)
  rw [f2, s2, List.mem_append]
  constructor
  · rintro (h | h | h)
    · cases h
    · unfold keepA at h
      rw [List.mem_filter] at h
      exact Or.inl ⟨h.1, (hasK_iff l r.f0).1 (by simpa using h.2)⟩
    · unfold putsA at h
      rw [List.mem_map] at h
      obtain ⟨c, hc, rfl⟩ := h
      rw [List.mem_filter] at hc
      exact Or.inr ⟨c, hc.1, by simpa using hc.2, rfl⟩
  · rintro (⟨hx, hn⟩ | ⟨c, hc, hf, rfl⟩)
    · exact Or.inr (Or.inl (by unfold keepA; rw [List.mem_filter]; exact ⟨hx, by rw [(hasK_iff l r.f0).2 hn]; rfl⟩))
    · exact Or.inr (Or.inr (by unfold putsA; rw [List.mem_map]; exact ⟨c, by rw [List.mem_filter]; exact ⟨hc, by rw [hf]; rfl⟩, rfl⟩))
def applyL (a : List RowS) (l : List ChgS) : List RowS × Int := if mayR a && mayC l then (batch_ApplyL a l, 0) else ([], 2)
theorem apply_ref (a : List RowS) (l : List ChgS) (h0 : a.length ≤ 300) (h1 : l.length ≤ 300) : Ev (fun k => cohortref09_Apply.f k a l) (applyL a l) := by
  unfold cohortref09_Apply.f applyL
  have bad : Ev (fun k => cohortref09_Apply.j0 k a l true) (([] : List RowS), (2 : Int)) := by
    refine Ev.step (g := fun _ => some (([] : List RowS), (2 : Int))) (fun k => ?_) (Ev.val _)
    simp [cohortref09_Apply.j0]
  refine Ev.bind (may_eq a (by omega)) ?_
  cases ha : mayR a with
  | false =>
    refine Ev.same (fun k => ?_) bad
    rw [if_neg Bool.false_ne_true]
  | true =>
    refine Ev.same (g := fun k => (cohortref09_MayChange.f k l).bind fun t => cohortref09_Apply.j0 k a l (!t)) (fun k => ?_) ?_
    · rw [if_pos rfl]
    · refine Ev.bind (mayc_eq l (by omega)) ?_
      cases hl : mayC l with
      | false => exact bad
      | true =>
        refine Ev.step (g := fun k => cohortref09_Apply.l0 k a l [] ((0 : Nat) : Int)) (fun k => ?_) ?_
        · simp [cohortref09_Apply.j0]
        · refine apply_l0 a l h0 h1 (mayR_len ha) _ a.length 0 [] (by omega) (by simp) ?_
          refine apply_l2 l h1 (mayC_len hl) _ l.length 0 _ (by omega) (by have := keep_len (a.drop 0) l; rw [List.length_drop] at this; simp only [List.nil_append]; omega) ?_
          rw [List.drop_zero, List.drop_zero, List.nil_append, ← sort_apply ha hl]
          exact sorted_eq _ (by have := keep_len a l; have := puts_len l; rw [List.length_append]; omega)
end Go.Proofs.Ytaoflcmjmhfblaa.D
/- Plain laws: the document's Between and Find are the program's. -/
namespace Go.Proofs.Ytaoflcmjmhfblaa.D
open Go.RowKit Go.Proofs.YtaoflcmjmhfblaaW.PrintWords Go.Proofs.YtaoflcmjmhfblaaW.PrintLast Go.Proofs.YtaoflcmjmhfblaaW.PrintMore Go.Proofs.Ytaoflcmjmhfblaa.H Go.Shelf
set_option linter.unusedVariables false
set_option linter.unusedSimpArgs false
def atK (k : ByteArray) (x : RowS) : Bool := decide (x.f0 = k)
theorem place_loop (l : List RowS) (k : ByteArray) (hn : l.length < 4611686018427387904) : ∀ (d i : Nat), i + d = l.length → (∀ j, j < i → atK k (l.getD j z161) = false) → Ev (fun q => cohortref09_place.l0 q l k (i : Int)) (idxI (atK k) l)
  | 0, i, hi, hb => by
    rw [idxI_miss (atK k) l z161 (fun j hj => hb j (by omega))]
    refine Ev.step (g := fun _ => some (-1)) (fun q => ?_) (Ev.val _)
    conv => lhs; unfold cohortref09_place.l0
    rw [if_neg (by omega)]
  | d + 1, i, hi, hb => by
    have hlt : i < l.length := by omega
    by_cases he : (l.getD i z161).f0 = k
    · rw [idxI_hit (atK k) l i (l.getD i z161) (by rw [getD_at l _ i hlt]; exact List.getElem?_eq_getElem hlt) (decide_eq_true he) (fun j hj => by rw [getD_any l j _ z161 (by omega)]; exact hb j hj)]
      refine Ev.step (g := fun _ => some (i : Int)) (fun q => ?_) (Ev.val _)
      conv => lhs; unfold cohortref09_place.l0
      rw [if_pos (by omega), if_pos (by omega), rd_row, if_pos ((keq' _ _).2 he)]
    · refine Ev.step (fun q => ?_) (place_loop l k hn d (i + 1) (by omega) (fun j hj => by
        rcases Nat.lt_or_ge j i with h | h
        · exact hb j h
        · have : j = i := by omega
          rw [this]; exact decide_eq_false he))
      conv => lhs; unfold cohortref09_place.l0
      rw [if_pos (by omega), if_pos (by omega), rd_row, if_neg (fun e => he ((keq' _ _).1 e)), wrapN i (by omega)]
theorem place_eq (l : List RowS) (k : ByteArray) (hn : l.length < 4611686018427387904) : Ev (fun q => cohortref09_place.f q l k) (idxI (atK k) l) := place_loop l k hn l.length 0 (by omega) (fun j hj => absurd hj (by omega))
theorem idx_cases (l : List RowS) (k : ByteArray) : (idxI (atK k) l = -1 ∧ (∀ x ∈ l, x.f0 ≠ k) ∧ findR l k = none) ∨ ∃ (i : Nat) (hi : i < l.length), idxI (atK k) l = (i : Int) ∧ l[i].f0 = k ∧ findR l k = some l[i] := by
  rcases find_idx (atK k) l with ⟨h1, h2⟩ | ⟨i, x, hi, hx, h1, h2⟩
  · left
    refine ⟨h2, fun x hx e => ?_, h1⟩
    have := List.find?_eq_none.1 h1 x hx
    exact this (decide_eq_true e)
  · right
    have e : l[i] = x := by rw [List.getElem?_eq_getElem hi] at hx; exact Option.some.inj hx
    refine ⟨i, hi, h2, ?_, by rw [e]; exact h1⟩
    have := List.find?_some h1
    rw [e]
    exact of_decide_eq_true this
def inK (l : List RowS) (k : ByteArray) : Bool := l.any (atK k)
theorem inK_neg (l : List RowS) (k : ByteArray) : decide (idxI (atK k) l < 0) = !inK l k := by
  have h := idxI_any (atK k) l
  unfold inK
  rw [← h]
  by_cases h0 : 0 ≤ idxI (atK k) l
  · rw [decide_eq_true h0, decide_eq_false (by omega)]; rfl
  · rw [decide_eq_false h0, decide_eq_true (by omega)]; rfl
theorem inK_iff (l : List RowS) (k : ByteArray) : inK l k = false ↔ ∀ x ∈ l, x.f0 ≠ k := by
  unfold inK
  rw [List.any_eq_false]
  constructor
  · intro h c hc e; exact h c hc (decide_eq_true e)
  · intro h c hc e; exact h c hc (of_decide_eq_true e)
def goneB (a b : List RowS) : List RowS := (a.filter (fun x => !inK b x.f0)).map (fun x => ⟨x.f0, []⟩)
/-- Is a row put? -/
def putQ (a : List RowS) (y : RowS) : Bool := match findR a y.f0 with | none => true | some x => !sameB x.f1 y.f1
theorem between_l2 (x1 x6 : List RowS) (h1 : x1.length ≤ 300) (h6 : x6.length ≤ 600) (hv : ∀ x ∈ x6, x.f1.length ≤ 524288) : ∀ (d i : Nat) (acc : List ChgS), i + d = x6.length → acc.length = i →
    Ev (fun k => cohortref09_Between.l2 k x1 x6 acc (i : Int)) (acc ++ (x6.drop i).map (fun r => (⟨r.f0, r.f1, !inK x1 r.f0⟩ : ChgS)), 0)
  | 0, i, acc, hi, ha => by
    have hd : x6.drop i = [] := List.drop_of_length_le (by omega)
    rw [hd]
    refine Ev.step (g := fun _ => some (acc, 0)) (fun k => ?_) (by simpa using Ev.val (acc, (0 : Int)))
    conv => lhs; unfold cohortref09_Between.l2
    rw [if_neg (by omega)]
  | d + 1, i, acc, hi, ha => by
    have hlt : i < x6.length := by omega
    have hd := drop_at x6 z161 i hlt
    have hvv := hv (x6.getD i z161) (by rw [getD_at x6 _ i hlt]; exact List.getElem_mem hlt)
    obtain ⟨y, hy⟩ : ∃ y, x6.getD i z161 = y := ⟨_, rfl⟩
    rw [hy] at hd hvv
    have ih := between_l2 x1 x6 h1 h6 hv d (i + 1) (acc ++ [⟨y.f0, y.f1, !inK x1 y.f0⟩]) (by omega) (by simp; omega)
    have e : acc ++ (x6.drop i).map (fun r => (⟨r.f0, r.f1, !inK x1 r.f0⟩ : ChgS)) = (acc ++ [⟨y.f0, y.f1, !inK x1 y.f0⟩]) ++ (x6.drop (i + 1)).map (fun r => (⟨r.f0, r.f1, !inK x1 r.f0⟩ : ChgS)) := by rw [hd]; simp
    rw [e]
    refine Ev.step (g := fun k => (cohortref09_place.f k x1 y.f0).bind fun t => (if acc.length < 2932031007402 then cohortref09_Between.l2 k x1 x6 (acc ++ [⟨y.f0, y.f1, decide (t < 0)⟩]) ((i + 1 : Nat) : Int) else none)) (fun k => ?_) ?_
    · conv => lhs; unfold cohortref09_Between.l2
      rw [if_pos (by omega), if_pos (by omega), rd_row, hy, copy_eq _ hvv, Option.bind_some, wrapN i (by omega)]
    · refine Ev.bind (place_eq x1 y.f0 (by omega)) ?_
      refine Ev.same (fun k => ?_) ih
      rw [if_pos (by omega), inK_neg]
theorem between_l1 (x0 x1 : List RowS) (h0 : x0.length ≤ 300) (h1 : x1.length ≤ 300) (r : List ChgS × Int) : ∀ (d i : Nat) (acc : List RowS), i + d = x1.length → acc.length ≤ 300 + i →
    Ev (fun k => (cohortref09_sorted.f k (acc ++ (x1.drop i).filter (putQ x0))).bind fun t => cohortref09_Between.l2 k x1 t [] 0) r → Ev (fun k => cohortref09_Between.l1 k x0 x1 acc (i : Int)) r
  | 0, i, acc, hi, ha, h => by
    have hd : x1.drop i = [] := List.drop_of_length_le (by omega)
    rw [hd] at h
    refine Ev.step (fun k => ?_) h
    conv => lhs; unfold cohortref09_Between.l1
    rw [if_neg (by omega)]
    simp
  | d + 1, i, acc, hi, ha, h => by
    have hlt : i < x1.length := by omega
    have hd := drop_at x1 z161 i hlt
    obtain ⟨y, hy⟩ : ∃ y, x1.getD i z161 = y := ⟨_, rfl⟩
    rw [hy] at hd
    rw [hd] at h
    refine Ev.step (g := fun k => (cohortref09_place.f k x0 y.f0).bind fun t203 => (if t203 < 0 then (if acc.length < 3518437208883 then cohortref09_Between.l1 k x0 x1 (acc ++ [⟨y.f0, y.f1⟩]) ((i + 1 : Nat) : Int) else none) else (if 0 ≤ t203 then (if t203 < (x0.length : Int) then ((cohortref00_Same.f ((rd_T161 x0 t203).f1) y.f1).bind fun t210 => (if t210 = true then cohortref09_Between.l1 k x0 x1 acc ((i + 1 : Nat) : Int) else (if acc.length < 3518437208883 then cohortref09_Between.l1 k x0 x1 (acc ++ [⟨y.f0, y.f1⟩]) ((i + 1 : Nat) : Int) else none))) else none) else none))) (fun k => ?_) ?_
    · conv => lhs; unfold cohortref09_Between.l1
      rw [if_pos (by omega), if_pos (by omega), rd_row, hy, wrapN i (by omega)]
    · refine Ev.bind (place_eq x0 y.f0 (by omega)) ?_
      rcases idx_cases x0 y.f0 with ⟨e1, _, e2⟩ | ⟨j, hj, e1, _, e2⟩
      · have hq : putQ x0 y = true := by unfold putQ; rw [e2]
        refine Ev.same (fun k => ?_) (between_l1 x0 x1 h0 h1 r d (i + 1) (acc ++ [⟨y.f0, y.f1⟩]) (by omega) (by simp; omega) (by simpa [hq] using h))
        rw [e1, if_pos (by omega), if_pos (by omega)]
      · have hq : putQ x0 y = !sameB x0[j].f1 y.f1 := by unfold putQ; rw [e2]
        have hsame : cohortref00_Same.f (rd_T161 x0 (j : Int)).f1 y.f1 = some (sameB x0[j].f1 y.f1) := by rw [rd_row, getD_at x0 _ j hj]; rfl
        cases hs : sameB x0[j].f1 y.f1 with
        | true =>
          rw [hs] at hq hsame
          refine Ev.same (fun k => ?_) (between_l1 x0 x1 h0 h1 r d (i + 1) acc (by omega) (by omega) (by simpa [hq] using h))
          rw [e1, if_neg (by omega), if_pos (by omega), if_pos (by omega), hsame, Option.bind_some, if_pos rfl]
        | false =>
          rw [hs] at hq hsame
          refine Ev.same (fun k => ?_) (between_l1 x0 x1 h0 h1 r d (i + 1) (acc ++ [⟨y.f0, y.f1⟩]) (by omega) (by simp; omega) (by simpa [hq] using h))
          rw [e1, if_neg (by omega), if_pos (by omega), if_pos (by omega), hsame, Option.bind_some, if_neg Bool.false_ne_true, if_pos (by omega)]
theorem between_l0 (x0 x1 : List RowS) (h0 : x0.length ≤ 300) (h1 : x1.length ≤ 300) (r : List ChgS × Int) : ∀ (d i : Nat) (acc : List RowS), i + d = x0.length → acc.length ≤ i →
    Ev (fun k => cohortref09_Between.l1 k x0 x1 (acc ++ goneB (x0.drop i) x1) 0) r → Ev (fun k => cohortref09_Between.l0 k x0 x1 acc (i : Int)) r
  | 0, i, acc, hi, ha, h => by
    have hd : x0.drop i = [] := List.drop_of_length_le (by omega)
    rw [hd] at h
    refine Ev.step (fun k => ?_) h
    conv => lhs; unfold cohortref09_Between.l0
    rw [if_neg (by omega)]
    simp [goneB]
  | d + 1, i, acc, hi, ha, h => by
    have hlt : i < x0.length := by omega
    have hd := drop_at x0 z161 i hlt
    obtain ⟨y, hy⟩ : ∃ y, x0.getD i z161 = y := ⟨_, rfl⟩
    rw [hy] at hd
    rw [hd] at h
    refine Ev.step (g := fun k => (cohortref09_place.f k x1 y.f0).bind fun t => (if t < 0 then (if acc.length < 3518437208883 then cohortref09_Between.l0 k x0 x1 (acc ++ [⟨y.f0, []⟩]) ((i + 1 : Nat) : Int) else none) else cohortref09_Between.l0 k x0 x1 acc ((i + 1 : Nat) : Int))) (fun k => ?_) ?_
    · conv => lhs; unfold cohortref09_Between.l0
      rw [if_pos (by omega), if_pos (by omega), rd_row, hy, wrapN i (by omega)]
    · refine Ev.bind (place_eq x1 y.f0 (by omega)) ?_
      have hk := inK_neg x1 y.f0
      cases hb : inK x1 y.f0 with
      | true =>
        rw [hb] at hk
        refine Ev.same (fun k => ?_) (between_l0 x0 x1 h0 h1 r d (i + 1) acc (by omega) (by omega) (by simpa [goneB, hb] using h))
        rw [if_neg (of_decide_eq_false hk)]
      | false =>
        rw [hb] at hk
        refine Ev.same (fun k => ?_) (between_l0 x0 x1 h0 h1 r d (i + 1) (acc ++ [⟨y.f0, []⟩]) (by omega) (by simp; omega) (by simpa [goneB, hb] using h))
        rw [if_pos (of_decide_eq_true hk), if_pos (by omega)]
theorem findR_mem {l : List RowS} (hl : mayR l = true) (k : ByteArray) : (findR l k = none ∧ ∀ x ∈ l, x.f0 ≠ k) ∨ ∃ x ∈ l, x.f0 = k ∧ findR l k = some x ∧ ∀ z ∈ l, z.f0 = k → z = x := by
  rcases idx_cases l k with ⟨_, h1, h2⟩ | ⟨i, hi, _, h1, h2⟩
  · exact Or.inl ⟨h2, h1⟩
  · refine Or.inr ⟨l[i], List.getElem_mem hi, h1, h2, fun z hz e => ?_⟩
    obtain ⟨j, hj, rfl⟩ := List.mem_iff_getElem.1 hz
    rcases Nat.lt_trichotomy i j with h | h | h
    · have := List.pairwise_iff_getElem.1 (mayR_sorted hl) i j hi hj h
      unfold ltR at this
      rw [h1, e] at this
      exact absurd this (ltK_irr _)
    · subst h; rfl
    · have := List.pairwise_iff_getElem.1 (mayR_sorted hl) j i hj hi h
      unfold ltR at this
      rw [h1, e] at this
      exact absurd this (ltK_irr _)
theorem putQ_iff {a : List RowS} (ha : mayR a = true) (y : RowS) : putQ a y = true ↔ ∀ x ∈ a, x.f0 = y.f0 → sameB x.f1 y.f1 = false := by
  unfold putQ
  rcases findR_mem ha y.f0 with ⟨h1, h2⟩ | ⟨x, hx, e, h1, h2⟩
  · rw [h1]
    exact ⟨fun _ x hx e => absurd e (h2 x hx), fun _ => rfl⟩
  · rw [h1]
    simp only [Bool.not_eq_true']
    constructor
    · intro h z hz e2
      rw [h2 z hz e2]; exact h
    · intro h
      exact h x hx e
theorem sort_between {a b : List RowS} (ha : mayR a = true) (hb : mayR b = true) : ((goneB a b ++ b.filter (putQ a)).foldl insR []).map (fun r => (⟨r.f0, r.f1, !inK b r.f0⟩ : ChgS)) = batch_BetweenL a b := by
  obtain ⟨s1, s2⟩ := between_spec ha hb
  have hgm : ∀ r, r ∈ goneB a b ↔ ∃ x ∈ a, (∀ y ∈ b, y.f0 ≠ x.f0) ∧ r = ⟨x.f0, []⟩ := by
    intro r
    unfold goneB
    rw [List.mem_map]
    constructor
    · rintro ⟨x, hx, rfl⟩
      rw [List.mem_filter] at hx
      exact ⟨x, hx.1, (inK_iff b x.f0).1 (by simpa using hx.2), rfl⟩
    · rintro ⟨x, hx, hn, rfl⟩
      exact ⟨x, by rw [List.mem_filter]; exact ⟨hx, by rw [(inK_iff b x.f0).2 hn]; rfl⟩, rfl⟩
  have hd : (goneB a b ++ b.filter (putQ a)).Pairwise (fun x y => x.f0 ≠ y.f0) := by
    rw [List.pairwise_append]
    refine ⟨?_, ?_, ?_⟩
    · unfold goneB
      rw [List.pairwise_map]
      refine List.Pairwise.imp ?_ ((mayR_sorted ha).sublist List.filter_sublist)
      intro x y h e
      simp only at e
      unfold ltR at h
      rw [e] at h
      exact ltK_irr _ h
    · refine List.Pairwise.imp ?_ ((mayR_sorted hb).sublist List.filter_sublist)
      intro x y h e
      unfold ltR at h
      rw [e] at h
      exact ltK_irr _ h
    · intro x hx y hy e
      obtain ⟨z, hz, hn, rfl⟩ := (hgm x).1 hx
      exact hn y (List.mem_filter.1 hy).1 e.symm
  obtain ⟨f1, f2⟩ := fold_sorted (goneB a b ++ b.filter (putQ a)) [] List.Pairwise.nil hd (fun y hy => by cases hy)
  refine sorted_ext (lt := fun x y : ChgS => ltK x.f0 y.f0) (fun _ _ h => ltK_asymm h) _ _ ?_ s1 (fun r => ?_)
  · rw [List.pairwise_map]
    exact f1
  rw [s2, List.mem_map]
  constructor
  · rintro ⟨q, hq, rfl⟩
    rw [f2, List.mem_append] at hq
    rcases hq with hq | hq | hq
    · cases hq
    · obtain ⟨x, hx, hn, rfl⟩ := (hgm q).1 hq
      exact Or.inl ⟨x, hx, hn, by simp only [(inK_iff b x.f0).2 hn]; rfl⟩
    · rw [List.mem_filter] at hq
      have hin : inK b q.f0 = true := by
        cases hi : inK b q.f0 with
        | true => rfl
        | false => exact absurd rfl ((inK_iff b q.f0).1 hi q hq.1)
      exact Or.inr ⟨q, hq.1, (putQ_iff ha q).1 hq.2, by simp only [hin]; rfl⟩
  · rintro (⟨x, hx, hn, rfl⟩ | ⟨y, hy, hn, rfl⟩)
    · refine ⟨⟨x.f0, []⟩, ?_, by simp only [(inK_iff b x.f0).2 hn]; rfl⟩
      rw [f2, List.mem_append]
      exact Or.inr (Or.inl ((hgm _).2 ⟨x, hx, hn, rfl⟩))
    · have hin : inK b y.f0 = true := by
        cases hi : inK b y.f0 with
        | true => rfl
        | false => exact absurd rfl ((inK_iff b y.f0).1 hi y hy)
      refine ⟨y, ?_, by simp only [hin]; rfl⟩
      rw [f2, List.mem_append]
      exact Or.inr (Or.inr (by rw [List.mem_filter]; exact ⟨hy, (putQ_iff ha y).2 hn⟩))
def betweenL (a b : List RowS) : List ChgS × Int := if mayR a && mayR b then (batch_BetweenL a b, 0) else ([], 2)
theorem between_ref (a b : List RowS) (h0 : a.length ≤ 300) (h1 : b.length ≤ 300) : Ev (fun k => cohortref09_Between.f k a b) (betweenL a b) := by
  unfold cohortref09_Between.f betweenL
  have bad : Ev (fun k => cohortref09_Between.j0 k a b true) (([] : List ChgS), (2 : Int)) := by
    refine Ev.step (g := fun _ => some (([] : List ChgS), (2 : Int))) (fun k => ?_) (Ev.val _)
    simp [cohortref09_Between.j0]
  refine Ev.bind (may_eq a (by omega)) ?_
  cases ha : mayR a with
  | false =>
    refine Ev.same (fun k => ?_) bad
    rw [if_neg Bool.false_ne_true]
  | true =>
    refine Ev.same (g := fun k => (cohortref09_May.f k b).bind fun t => cohortref09_Between.j0 k a b (!t)) (fun k => ?_) ?_
    · rw [if_pos rfl]
    · refine Ev.bind (may_eq b (by omega)) ?_
      cases hb : mayR b with
      | false => exact bad
      | true =>
        refine Ev.step (g := fun k => cohortref09_Between.l0 k a b [] ((0 : Nat) : Int)) (fun k => ?_) ?_
        · simp [cohortref09_Between.j0]
        · have hg : (goneB a b).length ≤ a.length := by unfold goneB; rw [List.length_map]; exact List.length_filter_le _ _
          have hp : (b.filter (putQ a)).length ≤ b.length := List.length_filter_le _ _
          refine between_l0 a b h0 h1 _ a.length 0 [] (by omega) (by simp) ?_
          rw [List.drop_zero, List.nil_append]
          refine between_l1 a b h0 h1 _ b.length 0 _ (by omega) (by omega) ?_
          rw [List.drop_zero]
          refine Ev.bind (sorted_eq _ (by rw [List.length_append]; omega)) ?_
          have hlen : ((goneB a b ++ b.filter (putQ a)).foldl insR []).length ≤ 600 := by
            have hl : ∀ (l acc : List RowS), (l.foldl insR acc).length = acc.length + l.length := by
              intro l
              induction l with
              | nil => intro acc; simp
              | cons x l ih => intro acc; rw [List.foldl_cons, ih]; unfold insR; rw [insP_len, List.length_cons]; omega
            rw [hl, List.length_append]
            simp only [List.length_nil]
            omega
          have hd : (goneB a b ++ b.filter (putQ a)).Pairwise (fun x y => x.f0 ≠ y.f0) ∨ True := Or.inr trivial
          have hvv : ∀ x ∈ (goneB a b ++ b.filter (putQ a)).foldl insR [], x.f1.length ≤ 524288 := by
            have hm : ∀ (l acc : List RowS) (r : RowS), r ∈ l.foldl insR acc → r ∈ acc ∨ r ∈ l := by
              intro l
              induction l with
              | nil => intro acc r h; exact Or.inl h
              | cons x l ih =>
                intro acc r h
                rw [List.foldl_cons] at h
                rcases ih _ r h with h | h
                · rw [insR_mem] at h
                  rcases h with rfl | h
                  · exact Or.inr (List.mem_cons_self ..)
                  · exact Or.inl h
                · exact Or.inr (List.mem_cons_of_mem _ h)
            intro x hx
            rcases hm _ _ x hx with h | h
            · cases h
            · rw [List.mem_append] at h
              rcases h with h | h
              · unfold goneB at h
                rw [List.mem_map] at h
                obtain ⟨y, _, rfl⟩ := h
                simp
              · exact mayR_len hb x (List.mem_filter.1 h).1
          have := between_l2 b _ h1 hlen hvv _ 0 [] (Nat.zero_add _) rfl
          rw [List.drop_zero, List.nil_append, sort_between ha hb] at this
          exact this
def findL (l : List RowS) (k : ByteArray) : List Int × Bool := if mayR l then (match findR l k with | some x => (x.f1, true) | none => ([], false)) else ([], false)
theorem find_ref (l : List RowS) (k : ByteArray) (h0 : l.length ≤ 300) : Ev (fun q => cohortref09_Find.f q l k) (findL l k) := by
  unfold cohortref09_Find.f findL
  refine Ev.bind (place_eq l k (by omega)) ?_
  rcases idx_cases l k with ⟨e1, _, e2⟩ | ⟨i, hi, e1, _, e2⟩
  · refine Ev.of (fun q => ?_)
    rw [e1, if_pos (by omega), e2]
    cases mayR l <;> rfl
  · rw [e1, e2]
    refine Ev.same (g := fun q => (cohortref09_May.f q l).bind fun t229 => (if t229 = true then (if 0 ≤ (i : Int) then (if (i : Int) < (l.length : Int) then ((cohortref00_Copy.f ((rd_T161 l (i : Int)).f1)).bind fun t231 => (some (t231, true))) else (none)) else (none)) else (some (([] : List Int), false)))) (fun q => ?_) ?_
    · rw [if_neg (by omega)]
    · refine Ev.bind (may_eq l (by omega)) ?_
      cases hm : mayR l with
      | false => exact Ev.of (fun q => by rw [if_neg Bool.false_ne_true]; rfl)
      | true =>
        refine Ev.of (fun q => ?_)
        rw [if_pos rfl, if_pos (by omega), if_pos (by omega), rd_row, getD_at l _ i hi, copy_eq _ (mayR_len hm _ (List.getElem_mem hi)), Option.bind_some]
        rfl
theorem same_refl (l : List Int) : cohortref00_Same.f l l = some true := by unfold cohortref00_Same.f; rw [beq_self_eq_true]
theorem rows_loop (l : List RowS) (hn : l.length < 4611686018427387904) : ∀ (d i : Nat), i + d = l.length → Ev (fun k => cohortref00_Rows.l0 k l l (i : Int)) true
  | 0, i, hi => by
    refine Ev.step (g := fun _ => some true) (fun k => ?_) (Ev.val _)
    conv => lhs; unfold cohortref00_Rows.l0
    rw [if_neg (by omega)]
  | d + 1, i, hi => by
    refine Ev.step (fun k => ?_) (rows_loop l hn d (i + 1) (by omega))
    conv => lhs; unfold cohortref00_Rows.l0
    rw [if_pos (by omega), if_pos (by omega), if_pos (by omega), if_pos rfl, same_refl, Option.bind_some, if_pos rfl, wrapN i (by omega)]
theorem rows_refl (l : List RowS) (hn : l.length < 4611686018427387904) : Ev (fun k => cohortref00_Rows.f k l l) true := by
  refine Ev.same (fun k => ?_) (rows_loop l hn l.length 0 (by omega))
  unfold cohortref00_Rows.f
  rw [if_pos rfl]
  rfl
end Go.Proofs.Ytaoflcmjmhfblaa.D
/- The law BatchTables. -/
namespace Go.Proofs.Ytaoflcmjmhfblaa.D
open Go.RowKit Go.Proofs.YtaoflcmjmhfblaaW.PrintWords Go.Proofs.YtaoflcmjmhfblaaW.PrintLast Go.Proofs.YtaoflcmjmhfblaaW.PrintMore Go.Proofs.Ytaoflcmjmhfblaa.H Go.Shelf
set_option linter.unusedVariables false
set_option linter.unusedSimpArgs false
theorem apply_mine (a : List RowS) (l : List ChgS) (h0 : a.length ≤ 300) (h1 : l.length ≤ 300) : batch_Apply.f a l = some (applyL a l) := by
  unfold batch_Apply.f applyL
  rw [if_pos (by omega)]
  cases mayR a && mayC l <;> rfl
theorem between_mine (a b : List RowS) (h0 : a.length ≤ 300) (h1 : b.length ≤ 300) : batch_Between.f a b = some (betweenL a b) := by
  unfold batch_Between.f betweenL
  rw [if_pos (by omega)]
  cases mayR a && mayR b <;> rfl
theorem find_mine (a : List RowS) (k : ByteArray) (h0 : a.length ≤ 300) : batch_Find.f a k = some (findL a k) := by
  unfold batch_Find.f findL
  rw [if_pos (by omega)]
  rfl
theorem applyL_len (a : List RowS) (l : List ChgS) (h0 : a.length ≤ 300) (h1 : l.length ≤ 300) : (applyL a l).1.length < 4611686018427387904 := by
  unfold applyL
  cases h : mayR a && mayC l with
  | false => rw [if_neg Bool.false_ne_true]; simp
  | true =>
    rw [if_pos rfl]
    rw [Bool.and_eq_true] at h
    show (batch_ApplyL a l).length < _
    rw [← sort_apply h.1 h.2]
    have hl : ∀ (l acc : List RowS), (l.foldl insR acc).length = acc.length + l.length := by
      intro l
      induction l with
      | nil => intro acc; simp
      | cons x l ih => intro acc; rw [List.foldl_cons, ih]; unfold insR; rw [insP_len, List.length_cons]; omega
    rw [hl, List.length_append]
    have := keep_len a l
    have := puts_len l
    simp only [List.length_nil]
    omega
theorem betweenL_len (a b : List RowS) (h0 : a.length ≤ 300) (h1 : b.length ≤ 300) : (betweenL a b).1.length < 4611686018427387904 := by
  unfold betweenL
  cases h : mayR a && mayR b with
  | false => rw [if_neg Bool.false_ne_true]; simp
  | true =>
    rw [if_pos rfl]
    rw [Bool.and_eq_true] at h
    show (batch_BetweenL a b).length < _
    rw [← sort_between h.1 h.2, List.length_map]
    have hl : ∀ (l acc : List RowS), (l.foldl insR acc).length = acc.length + l.length := by
      intro l
      induction l with
      | nil => intro acc; simp
      | cons x l ih => intro acc; rw [List.foldl_cons, ih]; unfold insR; rw [insP_len, List.length_cons]; omega
    rw [hl, List.length_append]
    have hg : (goneB a b).length ≤ a.length := by unfold goneB; rw [List.length_map]; exact List.length_filter_le _ _
    have hp : (b.filter (putQ a)).length ≤ b.length := List.length_filter_le _ _
    simp only [List.length_nil]
    omega
theorem V_arg {w W : World} {A : Option Addr} {c : Nat} {l : List RowS} (hc : l.length ≤ c) (h : Kd.C kRow w A l.length l) (hb : Below w.heap.size w W) : Kd.V kRow 161 W W.heap.size (fun k_ => k_ < w.heap.size) (.slice A l.length c) l :=
  Kd.V_mk hc (Kd.F_below (Kd.C_F k161_heap h) hb)
set_option maxHeartbeats 4000000 in
set_option maxRecDepth 100000 in
theorem tables_walk {A0 A1 A2 : Option Addr} {c0 c1 c2 : Nat} {l0 l1 : List RowS} {l2 : List ChgS} {a3 : ByteArray} (w : World) (h0 : Kd.C kRow w A0 l0.length l0) (k0 : l0.length ≤ c0) (h1 : Kd.C kRow w A1 l1.length l1) (k1 : l1.length ≤ c1) (h2 : Kd.C kChg w A2 l2.length l2) (k2 : l2.length ≤ c2) :
    Calls Try.prog 9 #[.slice A0 l0.length c0, .slice A1 l1.length c1, .slice A2 l2.length c2, .string a3] w fun e w' => e = .returned (.bool true) ∧ Below w.heap.size w w' := by
  have KL := Lib.hid (fun W => cohortlaw09_lives.calls true W rfl)
  obtain ⟨g1, hg1⟩ : ∃ g, cohortlaw09_great.f l2 l0 = some g := by unfold cohortlaw09_great.f; split <;> exact ⟨_, rfl⟩
  obtain ⟨g2, hg2⟩ : ∃ g, cohortlaw09_great.f [] l1 = some g := by unfold cohortlaw09_great.f; split <;> exact ⟨_, rfl⟩
  have hgr1 : g1 = false → l2.length ≤ 300 ∧ l0.length ≤ 300 := by
    intro e
    unfold cohortlaw09_great.f at hg1
    split at hg1
    · rw [e] at hg1; cases hg1
    · have := Option.some.inj hg1
      rw [e] at this
      have := of_decide_eq_false this
      omega
  have hgr2 : g2 = false → l1.length ≤ 300 := by
    intro e
    unfold cohortlaw09_great.f at hg2
    split at hg2
    · rw [e] at hg2; cases hg2
    · have := Option.some.inj hg2
      rw [e] at this
      have := of_decide_eq_false this
      omega
  have KG1 := Lib.hid (cohortlaw09_great.calls A2 c2 l2 A0 c0 l0 g1 w h2 k2 h0 k0 hg1)
  have KG2 : Hid (∀ W, Below w.heap.size w W → Calls Try.prog 38 #[.slice none 0 0, .slice A1 l1.length c1] W fun e w' => e = .returned (.bool g2) ∧ Drawn0 W w') := Lib.hid (fun W hW => cohortlaw09_great.calls none 0 [] A1 c1 l1 g2 W ⟨rfl, by decide, fun h => absurd h (by decide)⟩ (Nat.le_refl _) (Kd.C_below h1 hW) k1 hg2)
  have big : g1 = true ∨ g2 = true → Calls Try.prog 9 #[.slice A0 l0.length c0, .slice A1 l1.length c1, .slice A2 l2.length c2, .string a3] w fun e w' => e = .returned (.bool true) ∧ Below w.heap.size w w' := by
    intro hor
    clear hg1 hg2 hgr1 hgr2 h0 h1 h2 k0 k1 k2
    cases g1 with
    | true =>
      go_enter Try.func9, Try.ntmps9
      go_wp2_with (first
        | (go_at_call 38; refine KG1.out.mono ?_; rintro e w1 ⟨rfl, hd⟩; have HB1 := Lib.hid (drawn0_below hd); clear hd)
        | (go_at_call 36; refine (KL.out _).mono ?_; rintro e w2 ⟨rfl, hb⟩; have HB2 := Lib.hid (below_step HB1.out hb); clear hb))
      go_ret
      exact ⟨rfl, HB2.out⟩
    | false =>
      have : g2 = true := by rcases hor with h | h; cases h; exact h
      subst this
      go_enter Try.func9, Try.ntmps9
      go_wp2_with (first
        | (go_at_call 38; refine (KG2.out _ HB1.out).mono ?_; rintro e w1b ⟨rfl, hd⟩; have HB1b := Lib.hid (below_step HB1.out (drawn0_below hd)); clear hd)
        | (go_at_call 38; refine KG1.out.mono ?_; rintro e w1 ⟨rfl, hd⟩; have HB1 := Lib.hid (drawn0_below hd); clear hd)
        | (go_at_call 36; refine (KL.out _).mono ?_; rintro e w2 ⟨rfl, hb⟩; have HB2 := Lib.hid (below_step HB1b.out hb); clear hb))
      go_ret
      exact ⟨rfl, HB2.out⟩
  cases g1 with
  | true => exact big (Or.inl rfl)
  | false =>
  cases g2 with
  | true => exact big (Or.inr rfl)
  | false =>
  clear big
  have hb0 := (hgr1 rfl).2
  have hb2 := (hgr1 rfl).1
  have hb1 := hgr2 rfl
  clear hg1 hg2 hgr1 hgr2
  obtain ⟨q1, hq1⟩ := (apply_ref l0 l2 hb0 hb2).one
  obtain ⟨q2, hq2⟩ := (between_ref l0 l1 hb0 hb1).one
  obtain ⟨q3, hq3⟩ := (find_ref l0 a3 hb0).one
  obtain ⟨q4, hq4⟩ := (rows_refl _ (applyL_len l0 l2 hb0 hb2)).one
  have hm1 := apply_mine l0 l2 hb0 hb2
  have hm2 := between_mine l0 l1 hb0 hb1
  have hm3 := find_mine l0 a3 hb0
  obtain ⟨⟨xs, xe⟩, hx⟩ : ∃ p, applyL l0 l2 = p := ⟨_, rfl⟩
  obtain ⟨⟨cs, ce⟩, hc⟩ : ∃ p, betweenL l0 l1 = p := ⟨_, rfl⟩
  obtain ⟨⟨vs, vi⟩, hv⟩ : ∃ p, findL l0 a3 = p := ⟨_, rfl⟩
  rw [hx] at hq1 hq4 hm1
  rw [hc] at hq2 hm2
  rw [hv] at hq3 hm3
  clear hx hc hv
  have K1 := Lib.hid (fun W (hW : Below w.heap.size w W) => batch_Apply.calls A0 c0 l0 A2 c2 l2 xs xe W (Kd.C_below h0 hW) k0 (Kd.C_below h2 hW) k2 hm1)
  have K2 := Lib.hid (fun W (hW : Below w.heap.size w W) => cohortref09_Apply.calls q1 A0 c0 l0 A2 c2 l2 xs xe W (Kd.C_below h0 hW) k0 (Kd.C_below h2 hW) k2 hq1)
  have K3 := Lib.hid (fun W (hW : Below w.heap.size w W) => batch_Between.calls A0 c0 l0 A1 c1 l1 cs ce W (Kd.C_below h0 hW) k0 (Kd.C_below h1 hW) k1 hm2)
  have K4 := Lib.hid (fun W (hW : Below w.heap.size w W) => cohortref09_Between.calls q2 A0 c0 l0 (fun k_ => k_ < w.heap.size) A1 c1 l1 cs ce W (Kd.C_below h0 hW) k0 (V_arg k1 h1 hW) hq2)
  have K5 := Lib.hid (fun W (hW : Below w.heap.size w W) => batch_Find.calls A0 c0 l0 a3 vs vi W (Kd.C_below h0 hW) k0 hm3)
  have K6 := Lib.hid (fun W (hW : Below w.heap.size w W) => cohortref09_Find.calls q3 A0 c0 l0 a3 vs vi W (Kd.C_below h0 hW) k0 hq3)
  have HQ4 := Lib.hid hq4
  clear h0 h1 h2 k0 k1 k2 hb0 hb1 hb2 hq1 hq2 hq3 hq4 hm1 hm2 hm3
  go_enter Try.func9, Try.ntmps9
  go_upto_region 4 with (first
    | (go_at_call 38; refine (KG2.out _ HB1.out).mono ?_; rintro e w1b ⟨rfl, hd⟩; have HB1b := Lib.hid (below_step HB1.out (drawn0_below hd)); clear hd)
    | (go_at_call 38; refine KG1.out.mono ?_; rintro e w1 ⟨rfl, hd⟩; have HB1 := Lib.hid (drawn0_below hd); clear hd)
    | (go_at_call 39; refine (K1.out _ HB1b.out).mono ?_; rintro e w2 ⟨v2, rfl, ho, hb⟩; have HX2 := Lib.hid (Kd.S_reads ho); have HB2 := Lib.hid (below_step HB1b.out hb); clear ho hb))
  obtain ⟨XA, xc, rfl, xl, xC⟩ := HX2.out
  have HXC := Lib.hid xC
  have HXL := Lib.hid xl
  clear xC xl K1 KG1 KG2
  go_upto_region 5 with (first
    | (go_at_call 40; refine (K2.out _ HB2.out).mono ?_; rintro e w3 ⟨v3, rfl, ho, hb⟩; have HY3 := Lib.hid (Kd.N_reads ho); have HB3 := Lib.hid (below_step HB2.out hb); have HXC := Lib.hid (Kd.C_below HXC.out hb); clear ho hb))
  obtain ⟨YA, yc, rfl, yl, yC⟩ := HY3.out
  have HYC := Lib.hid yC
  have HYL := Lib.hid yl
  clear yC yl K2 HY3
  go_upto_region 6 with (first
    | (go_at_call 41; refine (K3.out _ HB3.out).mono ?_; rintro e w4 ⟨v4, rfl, ho, hb⟩; have HC4 := Lib.hid (Kd.S_reads ho); have HB4 := Lib.hid (below_step HB3.out hb); have HXC := Lib.hid (Kd.C_below HXC.out hb); have HYC := Lib.hid (Kd.C_below HYC.out hb); clear ho hb))
  obtain ⟨CA, cc, rfl, _, cC⟩ := HC4.out
  have HCC := Lib.hid cC
  clear cC K3 HC4
  go_upto_region 7 with (first
    | (go_at_call 42; refine (K4.out _ HB4.out).mono ?_; rintro e w5 ⟨v5, rfl, ho, hb⟩; have HD5 := Lib.hid (Kd.N_reads ho); have HB5 := Lib.hid (below_step HB4.out hb); have HXC := Lib.hid (Kd.C_below HXC.out hb); have HYC := Lib.hid (Kd.C_below HYC.out hb); have HCC := Lib.hid (Kd.C_below HCC.out hb); clear ho hb))
  obtain ⟨DA, dc, rfl, _, dC⟩ := HD5.out
  have HDC := Lib.hid dC
  clear dC K4 HD5
  go_upto_region 8 with (first
    | (go_at_call 43; refine (K5.out _ HB5.out).mono ?_; rintro e w6 ⟨v6, rfl, ho, hb⟩; have HV6 := Lib.hid (Kd.R_reads ho); have HB6 := Lib.hid (below_step HB5.out hb); have HXC := Lib.hid (Kd.C_below HXC.out hb); have HYC := Lib.hid (Kd.C_below HYC.out hb); have HCC := Lib.hid (Kd.C_below HCC.out hb); have HDC := Lib.hid (Kd.C_below HDC.out hb); clear ho hb))
  obtain ⟨VA, vc, rfl, vl, vC⟩ := HV6.out
  have HVC := Lib.hid vC
  have HVL := Lib.hid vl
  clear vC vl K5 HV6
  go_upto_region 9 with (first
    | (go_at_call 44; refine (K6.out _ HB6.out).mono ?_; rintro e w7 ⟨v7, rfl, ho, hb⟩; have HW7 := Lib.hid (Kd.R_reads ho); have HB7 := Lib.hid (below_step HB6.out hb); have HXC := Lib.hid (Kd.C_below HXC.out hb); have HYC := Lib.hid (Kd.C_below HYC.out hb); have HCC := Lib.hid (Kd.C_below HCC.out hb); have HDC := Lib.hid (Kd.C_below HDC.out hb); have HVC := Lib.hid (Kd.C_below HVC.out hb); clear ho hb))
  obtain ⟨WA, wc, rfl, wl, wC⟩ := HW7.out
  have KR := Lib.hid (cohortref00_Rows.calls q4 XA xc xs YA yc xs true w7 HXC.out HXL.out HYC.out HYL.out HQ4.out)
  have KC := Lib.hid (fun W (hW : Below w7.heap.size w7 W) => changes_same CA cc DA dc cs W (Kd.C_below HCC.out hW) (Kd.C_below HDC.out hW))
  have KS := Lib.hid (fun W (hW : Below w7.heap.size w7 W) => cohortref00_Same.calls VA vc vs WA wc vs true W (Kd.C_below HVC.out hW) HVL.out (Kd.C_below wC hW) wl (same_self _))
  clear wC wl K6 HW7 HXC HXL HYC HYL HCC HDC HVC HVL HQ4
  go_wp2_with (first
    | (go_at_call 45; refine KR.out.mono ?_; rintro e w8 ⟨rfl, hd⟩; have HB8 := Lib.hid (drawn0_below hd); clear hd)
    | (go_at_call 35; refine (KC.out _ HB8.out).mono ?_; rintro e w9 ⟨rfl, hb⟩; have HB9 := Lib.hid (below_step HB8.out hb); clear hb)
    | (go_at_call 37; refine (KS.out _ HB9.out).mono ?_; rintro e w10 ⟨rfl, hd⟩; have HB10 := Lib.hid (below_step HB9.out (drawn0_below hd)); clear hd)
    | (go_at_call 36; refine (KL.out _).mono ?_; rintro e w11 ⟨rfl, hb⟩; have HB11 := Lib.hid (below_step HB10.out hb); clear hb))
  go_ret
  exact ⟨rfl, below_step HB7.out HB11.out⟩
end Go.Proofs.Ytaoflcmjmhfblaa.D
namespace Go.Proofs.Ytaoflcmjmhfblaa.H
set_option linter.unusedVariables false
open Go.RowKit Go.Proofs.YtaoflcmjmhfblaaW.PrintWords Go.Proofs.YtaoflcmjmhfblaaW.PrintLast Go.Proofs.YtaoflcmjmhfblaaW.PrintMore Go.Proofs.Ytaoflcmjmhfblaa.D
theorem batchTables_walk {A0 A1 A2 : Option Addr} {c0 c1 c2 : Nat} {l0 l1 : List RowS} {l2 : List ChgS} {a3 : ByteArray} (w : World) (h0 : Kd.C kRow w A0 l0.length l0) (k0 : l0.length ≤ c0) (w0 : l0.length ≤ 9223372036854775807 ∧ l0.length * 40 ≤ 140737488351232 ∧ ∀ x ∈ l0, Bytes x.f1)
    (h1 : Kd.C kRow w A1 l1.length l1) (k1 : l1.length ≤ c1) (w1 : l1.length ≤ 9223372036854775807 ∧ l1.length * 40 ≤ 140737488351232 ∧ ∀ x ∈ l1, Bytes x.f1) (h2 : Kd.C kChg w A2 l2.length l2) (k2 : l2.length ≤ c2) (w2 : l2.length ≤ 9223372036854775807 ∧ l2.length * 48 ≤ 140737488351232 ∧ ∀ x ∈ l2, Bytes x.f1) (w3 : a3.size ≤ 140737488351232) :
    Calls Try.prog 9 #[.slice A0 l0.length c0, .slice A1 l1.length c1, .slice A2 l2.length c2, .string a3] w fun e w' => e = .returned (.bool true) ∧ Below w.heap.size w w' :=
  tables_walk w h0 k0 h1 k1 h2 k2
end Go.Proofs.Ytaoflcmjmhfblaa.H
