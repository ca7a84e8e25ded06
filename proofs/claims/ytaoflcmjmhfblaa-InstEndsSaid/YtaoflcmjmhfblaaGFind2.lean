/- inst.find: its first region, which draws its order. -/
import Derived.Test.YtaoflcmjmhfblaaGFindI
namespace Go.Proofs.Ytaoflcmjmhfblaa.I
open Go.RowKit Go.Proofs.YtaoflcmjmhfblaaW.PrintWords Go.Proofs.YtaoflcmjmhfblaaW.PrintLast Go.Proofs.YtaoflcmjmhfblaaW.PrintMore Go.Proofs.Ytaoflcmjmhfblaa.H Go.Shelf
set_option linter.unusedVariables false
set_option linter.unusedSimpArgs false
def zeroR : RowV := (0, 0, false, 0)
def rowC (r : RowV) : Array Value := #[.int .u8 r.1, .int .u64 r.2.1, .bool r.2.2.1, .int .u8 r.2.2.2]
def findT (c : CfV) (s what : Int) : Option RowV := tabL (fun _ => true) (tabT c) (s, what)
def findE (c : CfV) (s what : Int) (g3 : Nat) : List (Nat × Nat × Value) := [(0, 12, c.val), (2, 14, .pointer (some ⟨g3, 5, none⟩)), (3, 15, .int .u8 s), (4, 16, .int .u8 what), (5, 17, encP (s, what)), (6, 18, .tuple #[encR ((findT c s what).getD zeroR), .bool (findT c s what).isSome]), (7, 11, .tuple #[encR ((findT c s what).getD zeroR), .bool (findT c s what).isSome]), (8, 19, encR ((findT c s what).getD zeroR)), (9, 20, .bool (findT c s what).isSome), (12, 9, .bool (findT c s what).isSome)]
def findK : List Nat := [12, 14, 15, 16, 17, 18, 11, 19, 20, 9, 13, 8]
theorem findE1 (c : CfV) (s what : Int) (g3 : Nat) : (findE c s what g3).map (·.1) = [0, 2, 3, 4, 5, 6, 7, 8, 9, 12] := rfl
theorem findE2 (c : CfV) (s what : Int) (g3 : Nat) : (findE c s what g3).map (·.2.1) = [12, 14, 15, 16, 17, 18, 11, 19, 20, 9] := rfl
structure FInv (c : CfV) (s what : Int) (g3 : Nat) (w0 : World) (a0 : Act) (L : Nat → Bool) (a : Act) (W : World) (B : Nat) (l : List ((Int × Int) × RowV)) (g8 : Nat) : Prop where
  v : VInv (findE c s what g3) findK a0 L a
  below : Below w0.heap.size w0 W
  map : L 1 = true → a.eval (.tmp 13) = .map (some B) ∧ MapR encP encR W B l ∧ ∀ b, lookL l b = tabL (fun _ => true) (tabT c) b
  row : L 10 = true → a.eval (.tmp 8) = .pointer (some ⟨g8, 0, none⟩) ∧ w0.heap.size ≤ g8 ∧ (L 11 = false → W.heap[g8]? = some (.cells (rowC zeroR) 133 (0, 0))) ∧ (L 11 = true → W.heap[g8]? = some (.cells (rowC ((findT c s what).getD zeroR)) 133 (0, 0)))
  ord : L 11 = true → L 10 = true
theorem addL_mono {L : Nat → Bool} {j : Nat} (i : Nat) (h : L j = true) : addL L i j = true := by
  unfold addL
  split
  · rfl
  · exact h
section
variable {c : CfV} {s what : Int} {g3 : Nat} {w0 W W2 : World} {a0 a : Act} {L : Nat → Bool} {B g8 : Nat} {l : List ((Int × Int) × RowV)}
theorem findN1 (c : CfV) (s what : Int) (g3 : Nat) : ((findE c s what g3).map (·.1)).Nodup := by rw [findE1]; decide
theorem findN2 (c : CfV) (s what : Int) (g3 : Nat) : ((findE c s what g3).map (·.2.1)).Nodup := by rw [findE2]; decide
/-- A known value is put. -/
theorem FInv.val (h : FInv c s what g3 w0 a0 L a W B l g8) (j : Nat) {i t : Nat} {v : Value} (hj : (findE c s what g3)[j]? = some (i, t, v)) (hi : i ≠ 1 ∧ i ≠ 10 ∧ i ≠ 11) (ht : t ≠ 13 ∧ t ≠ 8) (hk : t ∈ findK) (hz : t < a0.tmps.size) : FInv c s what g3 w0 a0 (addL L i) (a.put (some t) v) W B l g8 where
  v := h.v.put (findN1 _ _ _ _) (findN2 _ _ _ _) j hj hk hz
  below := h.below
  map hL := by
    rw [addL_ne L (fun e => hi.1 e.symm)] at hL
    obtain ⟨h1, h2⟩ := h.map hL
    exact ⟨(put_eval_ne (fun e => ht.1 e.symm)).trans h1, h2⟩
  row hL := by
    rw [addL_ne L (fun e => hi.2.1 e.symm)] at hL
    obtain ⟨h1, h2, h3⟩ := h.row hL
    rw [addL_ne L (fun e => hi.2.2 e.symm)]
    exact ⟨(put_eval_ne (fun e => ht.2 e.symm)).trans h1, h2, h3⟩
  ord hL := by
    rw [addL_ne L (fun e => hi.2.2 e.symm)] at hL
    exact addL_mono i (h.ord hL)
/-- The map comes. -/
theorem FInv.call (h : FInv c s what g3 w0 a0 L a W B l g8) {B2 : Nat} {l2 : List ((Int × Int) × RowV)} (hb : Below W.heap.size W W2) (hm : MapR encP encR W2 B2 l2) (hl : ∀ b, lookL l2 b = tabL (fun _ => true) (tabT c) b) (hz : 13 < a0.tmps.size) : FInv c s what g3 w0 a0 (addL L 1) (a.put (some 13) (.map (some B2))) W2 B2 l2 g8 where
  v := h.v.other (by rw [findE1]; decide) (by rw [findE2]; decide) (by decide)
  below := below_step h.below hb
  map _ := ⟨put_eval_same (by rw [h.v.size]; exact hz), hm, hl⟩
  row hL := by
    rw [addL_ne L (by decide)] at hL
    obtain ⟨h1, h2, h3, h4⟩ := h.row hL
    rw [addL_ne L (by decide)]
    refine ⟨(put_eval_ne (by decide)).trans h1, h2, fun q => ?_, fun q => ?_⟩
    · exact (hb.block _ (Array.getElem?_eq_some_iff.1 (h3 q)).1).trans (h3 q)
    · exact (hb.block _ (Array.getElem?_eq_some_iff.1 (h4 q)).1).trans (h4 q)
  ord hL := by
    rw [addL_ne L (by decide)] at hL
    exact addL_mono 1 (h.ord hL)
/-- The block of the row is laid. -/
theorem FInv.alloc (h : FInv c s what g3 w0 a0 L a W B l g8) (h11 : L 11 = false) (hz : 8 < a0.tmps.size) : FInv c s what g3 w0 a0 (addL L 10) (a.put (some 8) (.pointer (some ⟨W.heap.size, 0, none⟩))) (W.alloc (.cells (rowC zeroR) 133 (0, 0))) B l W.heap.size where
  v := h.v.other (by rw [findE1]; decide) (by rw [findE2]; decide) (by decide)
  below := below_alloc h.below _
  map hL := by
    rw [addL_ne L (by decide)] at hL
    obtain ⟨h1, h2, h3⟩ := h.map hL
    exact ⟨(put_eval_ne (by decide)).trans h1, h2.later ((Below.refl _ _).alloc (Nat.le_refl _) _), h3⟩
  row _ := by
    rw [addL_ne L (by decide), h11]
    exact ⟨put_eval_same (by rw [h.v.size]; exact hz), h.below.size, fun _ => heap_alloc_new _ _, fun q => by cases q⟩
  ord _ := addL_self L 10
/-- The row is stored. -/
theorem FInv.store (h : FInv c s what g3 w0 a0 L a W B l g8) (h10 : L 10 = true) (h11 : L 11 = false) : FInv c s what g3 w0 a0 (addL L 11) a (W.setRow g8 (rowC ((findT c s what).getD zeroR))) B l g8 where
  v := h.v.skip (by rw [findE1]; decide)
  below := below_setRow h.below (h.row h10).2.1 _
  map hL := by
    rw [addL_ne L (by decide)] at hL
    obtain ⟨h1, h2, h3⟩ := h.map hL
    refine ⟨h1, h2.move ?_, h3⟩
    have h8 := (h.row h10).2.2.1 h11
    have hne : B ≠ g8 := by
      rintro rfl
      obtain ⟨es, ck, hb, _⟩ := h2
      rw [h8] at hb
      cases hb
    exact setRow_other W g8 B _ hne
  row _ := by
    obtain ⟨h1, h2, h3, h4⟩ := h.row h10
    refine ⟨h1, h2, fun q => ?_, fun _ => setRow_heap _ _ _ _ _ _ (h3 h11)⟩
    rw [addL_self] at q
    cases q
  ord _ := addL_mono 11 h10
end
end Go.Proofs.Ytaoflcmjmhfblaa.I
