/- The contract of ledger.Ask. -/
import Derived.Test.YtaoflcmjmhfblaaGLedger2
namespace Go.Proofs.Ytaoflcmjmhfblaa.Q
open Go.RowKit Go.Proofs.YtaoflcmjmhfblaaW.PrintWords Go.Proofs.YtaoflcmjmhfblaaW.PrintLast Go.Proofs.YtaoflcmjmhfblaaW.PrintMore Go.Proofs.Ytaoflcmjmhfblaa.H Go.Shelf
set_option linter.unusedVariables false
set_option linter.unusedSimpArgs false
instance (l : List OpenS) (last : Int) (i : Nat) : Decidable (okAt l last i) := by unfold okAt; infer_instance
instance (l : List OpenS) (last : Int) : Decidable (MayL l last) := by unfold MayL; infer_instance
def ledger_May.f (l0 : List OpenS) (a1 : Int) : Option Bool := some (decide (MayL l0 a1))
theorem mayLc (A : Option Addr) (c : Nat) (l : List OpenS) (last : Int) (w : World) (h : Kd.C k61 w A l.length l) (hc : l.length ≤ c) :
    Calls Try.prog 30 #[.slice A l.length c, .int .u64 last] w fun e w' => e = .returned (.bool (decide (MayL l last))) ∧ Below w.heap.size w w' :=
  (may_walk A c l last w h hc).mono fun e w' ⟨⟨b, he, hb⟩, hbel⟩ => ⟨by rw [he]; cases b <;> by_cases h : MayL l last <;> simp_all, hbel⟩
theorem ledger_May.calls (A0 : Option Addr) (c0 : Nat) (l0 : List OpenS) (a1 : Int) (r : Bool) (w : World) (hr0 : Kd.C k61 w A0 l0.length l0) (hc0 : l0.length ≤ c0) (h : ledger_May.f l0 a1 = some r) :
    Calls Try.prog 30 #[.slice A0 l0.length c0, .int .u64 a1] w fun e w' => e = .returned (.bool r) ∧ Below w.heap.size w w' := by
  unfold ledger_May.f at h
  obtain rfl := Option.some.inj h
  exact mayLc A0 c0 l0 a1 w hr0 hc0
def twin (o x : OpenS) : Bool := !lau x && (ofO x == ofO o)
theorem below_of_drew0 {w w3 : World} (h : Below w.drew.heap.size w.drew w3) : Below w.heap.size w w3 := below_of_drew h
theorem eqOf (a b : OpenS) : (a.f0.f4 == b.f0.f4 && ((a.f0.f0 == 2) == (b.f0.f0 == 2))) = (ofO a == ofO b) := by
  show (a.f0.f4 == b.f0.f4 && ((a.f0.f0 == 2) == (b.f0.f0 == 2))) = ((a.f0.f4, (a.f0.f0 == 2)) == (b.f0.f4, (b.f0.f0 == 2)))
  rfl
attribute [local go_sem high] eqWhat
set_option maxHeartbeats 4000000 in
set_option maxRecDepth 100000 in
theorem ask1_calls (x o : OpenS) (gb : Nat) (w : World) (hc : w.heap[gb]? = some (.cells #[.int .u8 o.f0.f0, .int .u64 o.f0.f1, .int .i64 o.f0.f2, .bool o.f0.f3, .int .u64 o.f0.f4, .int .u64 o.f1, .int .i64 o.f2, .bool o.f3, .int .u32 o.f4] 61 (0, 0))) :
    Calls Try.prog 79 #[vOpen x, .pointer (some ⟨gb, 0, none⟩)] w fun e w' => e = .returned (.bool (twin o x)) ∧ Below w.heap.size w w' := by
  have hlt : gb < w.heap.size := by
    rcases Nat.lt_or_ge gb w.heap.size with q | q
    · exact q
    · rw [Array.getElem?_eq_none q] at hc; cases hc
  have mixed : Try.prog.follows .mixedOrders = true := by kernel_rfl
  have KL := fun W => lauc x W
  have KX := fun W => ofc x W
  have KY := fun W => ofc o W
  obtain ⟨b, hb⟩ : ∃ b, lau x = b := ⟨_, rfl⟩
  rw [hb] at KL
  have hr : twin o x = (!b && (x.f0.f4 == o.f0.f4 && ((x.f0.f0 == 2) == (o.f0.f0 == 2)))) := by unfold twin; rw [hb, eqOf]
  rw [hr]
  have HB := Lib.hid (Below.refl (w.alloc (.cells #[.int .u8 x.f0.f0, .int .u64 x.f0.f1, .int .i64 x.f0.f2, .bool x.f0.f3, .int .u64 x.f0.f4, .int .u64 x.f1, .int .i64 x.f2, .bool x.f3, .int .u32 x.f4] 61 (0, 0))).heap.size (w.alloc (.cells #[.int .u8 x.f0.f0, .int .u64 x.f0.f1, .int .i64 x.f0.f2, .bool x.f0.f3, .int .u64 x.f0.f4, .int .u64 x.f1, .int .i64 x.f2, .bool x.f3, .int .u32 x.f4] 61 (0, 0))))
  have HB0 := Lib.hid ((Below.refl w.heap.size w).alloc (Nat.le_refl _) (.cells #[.int .u8 x.f0.f0, .int .u64 x.f0.f1, .int .i64 x.f0.f2, .bool x.f0.f3, .int .u64 x.f0.f4, .int .u64 x.f1, .int .i64 x.f2, .bool x.f3, .int .u32 x.f4] 61 (0, 0)))
  have HXA := Lib.hid (fun W (hW : Below (w.alloc (.cells #[.int .u8 x.f0.f0, .int .u64 x.f0.f1, .int .i64 x.f0.f2, .bool x.f0.f3, .int .u64 x.f0.f4, .int .u64 x.f1, .int .i64 x.f2, .bool x.f3, .int .u32 x.f4] 61 (0, 0))).heap.size (w.alloc (.cells #[.int .u8 x.f0.f0, .int .u64 x.f0.f1, .int .i64 x.f0.f2, .bool x.f0.f3, .int .u64 x.f0.f4, .int .u64 x.f1, .int .i64 x.f2, .bool x.f3, .int .u32 x.f4] 61 (0, 0))) W) => (hW.block w.heap.size (by simp)).trans (heap_alloc_new w (.cells #[.int .u8 x.f0.f0, .int .u64 x.f0.f1, .int .i64 x.f0.f2, .bool x.f0.f3, .int .u64 x.f0.f4, .int .u64 x.f1, .int .i64 x.f2, .bool x.f3, .int .u32 x.f4] 61 (0, 0))))
  have HYA := Lib.hid (fun W (hW : Below (w.alloc (.cells #[.int .u8 x.f0.f0, .int .u64 x.f0.f1, .int .i64 x.f0.f2, .bool x.f0.f3, .int .u64 x.f0.f4, .int .u64 x.f1, .int .i64 x.f2, .bool x.f3, .int .u32 x.f4] 61 (0, 0))).heap.size (w.alloc (.cells #[.int .u8 x.f0.f0, .int .u64 x.f0.f1, .int .i64 x.f0.f2, .bool x.f0.f3, .int .u64 x.f0.f4, .int .u64 x.f1, .int .i64 x.f2, .bool x.f3, .int .u32 x.f4] 61 (0, 0))) W) => (hW.block gb (by simp; omega)).trans ((HB0.out.block gb hlt).trans hc))
  have cy_0 := box_cell hc 0 _ rfl
  have cy_1 := box_cell hc 1 _ rfl
  have cy_2 := box_cell hc 2 _ rfl
  have cy_3 := box_cell hc 3 _ rfl
  have cy_4 := box_cell hc 4 _ rfl
  have cy_5 := box_cell hc 5 _ rfl
  have cy_6 := box_cell hc 6 _ rfl
  have cy_7 := box_cell hc 7 _ rfl
  have cy_8 := box_cell hc 8 _ rfl
  simp only [vOpen, encW, ofO] at KL KX KY ⊢
  have KL := Lib.hid KL
  have KX := Lib.hid KX
  have KY := Lib.hid KY
  clear hb hc hr
  cases b with
  | true =>
    go_enter Try.func79, Try.ntmps79
    go_wp2
    go_region_with (first | (go_at_call 77; (with_reducible refine (KL.out _).mono ?_); rintro e w2 ⟨rfl, hb'⟩; have HB' := Lib.hid (by first | exact below_step HB.out hb' | exact below_step HB.out (below_of_drew0 hb')); clear HB; have HB := HB'; clear HB' hb'; have bx := HXA.out _ HB.out; have by_ := HYA.out _ HB.out; have cx2_0 := box_cell bx 0 _ rfl; have cx2_1 := box_cell bx 1 _ rfl; have cx2_2 := box_cell bx 2 _ rfl; have cx2_3 := box_cell bx 3 _ rfl; have cx2_4 := box_cell bx 4 _ rfl; have cx2_5 := box_cell bx 5 _ rfl; have cx2_6 := box_cell bx 6 _ rfl; have cx2_7 := box_cell bx 7 _ rfl; have cx2_8 := box_cell bx 8 _ rfl; have cy2_0 := box_cell by_ 0 _ rfl; have cy2_1 := box_cell by_ 1 _ rfl; have cy2_2 := box_cell by_ 2 _ rfl; have cy2_3 := box_cell by_ 3 _ rfl; have cy2_4 := box_cell by_ 4 _ rfl; have cy2_5 := box_cell by_ 5 _ rfl; have cy2_6 := box_cell by_ 6 _ rfl; have cy2_7 := box_cell by_ 7 _ rfl; have cy2_8 := box_cell by_ 8 _ rfl; clear bx by_))
    all_goals (go_wp2; go_ret; exact ⟨rfl, below_step HB0.out HB.out⟩)
  | false =>
    go_enter Try.func79, Try.ntmps79
    go_wp2
    go_region_with (first | (go_at_call 77; (with_reducible refine (KL.out _).mono ?_); rintro e w2 ⟨rfl, hb'⟩; have HB' := Lib.hid (by first | exact below_step HB.out hb' | exact below_step HB.out (below_of_drew0 hb')); clear HB; have HB := HB'; clear HB' hb'; have bx := HXA.out _ HB.out; have by_ := HYA.out _ HB.out; have cx2_0 := box_cell bx 0 _ rfl; have cx2_1 := box_cell bx 1 _ rfl; have cx2_2 := box_cell bx 2 _ rfl; have cx2_3 := box_cell bx 3 _ rfl; have cx2_4 := box_cell bx 4 _ rfl; have cx2_5 := box_cell bx 5 _ rfl; have cx2_6 := box_cell bx 6 _ rfl; have cx2_7 := box_cell bx 7 _ rfl; have cx2_8 := box_cell bx 8 _ rfl; have cy2_0 := box_cell by_ 0 _ rfl; have cy2_1 := box_cell by_ 1 _ rfl; have cy2_2 := box_cell by_ 2 _ rfl; have cy2_3 := box_cell by_ 3 _ rfl; have cy2_4 := box_cell by_ 4 _ rfl; have cy2_5 := box_cell by_ 5 _ rfl; have cy2_6 := box_cell by_ 6 _ rfl; have cy2_7 := box_cell by_ 7 _ rfl; have cy2_8 := box_cell by_ 8 _ rfl; clear bx by_) | (go_at_call 80; (with_reducible refine (KX.out _).mono ?_); rintro e w3 ⟨rfl, hb'⟩; have HB' := Lib.hid (by first | exact below_step HB.out hb' | exact below_step HB.out (below_of_drew0 hb')); clear HB; have HB := HB'; clear HB' hb'; have bx := HXA.out _ HB.out; have by_ := HYA.out _ HB.out; have cx3_0 := box_cell bx 0 _ rfl; have cx3_1 := box_cell bx 1 _ rfl; have cx3_2 := box_cell bx 2 _ rfl; have cx3_3 := box_cell bx 3 _ rfl; have cx3_4 := box_cell bx 4 _ rfl; have cx3_5 := box_cell bx 5 _ rfl; have cx3_6 := box_cell bx 6 _ rfl; have cx3_7 := box_cell bx 7 _ rfl; have cx3_8 := box_cell bx 8 _ rfl; have cy3_0 := box_cell by_ 0 _ rfl; have cy3_1 := box_cell by_ 1 _ rfl; have cy3_2 := box_cell by_ 2 _ rfl; have cy3_3 := box_cell by_ 3 _ rfl; have cy3_4 := box_cell by_ 4 _ rfl; have cy3_5 := box_cell by_ 5 _ rfl; have cy3_6 := box_cell by_ 6 _ rfl; have cy3_7 := box_cell by_ 7 _ rfl; have cy3_8 := box_cell by_ 8 _ rfl; clear bx by_) | (go_at_call 80; (with_reducible refine (KY.out _).mono ?_); rintro e w4 ⟨rfl, hb'⟩; have HB' := Lib.hid (by first | exact below_step HB.out hb' | exact below_step HB.out (below_of_drew0 hb')); clear HB; have HB := HB'; clear HB' hb'; have bx := HXA.out _ HB.out; have by_ := HYA.out _ HB.out; have cx4_0 := box_cell bx 0 _ rfl; have cx4_1 := box_cell bx 1 _ rfl; have cx4_2 := box_cell bx 2 _ rfl; have cx4_3 := box_cell bx 3 _ rfl; have cx4_4 := box_cell bx 4 _ rfl; have cx4_5 := box_cell bx 5 _ rfl; have cx4_6 := box_cell bx 6 _ rfl; have cx4_7 := box_cell bx 7 _ rfl; have cx4_8 := box_cell bx 8 _ rfl; have cy4_0 := box_cell by_ 0 _ rfl; have cy4_1 := box_cell by_ 1 _ rfl; have cy4_2 := box_cell by_ 2 _ rfl; have cy4_3 := box_cell by_ 3 _ rfl; have cy4_4 := box_cell by_ 4 _ rfl; have cy4_5 := box_cell by_ 5 _ rfl; have cy4_6 := box_cell by_ 6 _ rfl; have cy4_7 := box_cell by_ 7 _ rfl; have cy4_8 := box_cell by_ 8 _ rfl; clear bx by_))
    all_goals (go_wp2; go_ret; exact ⟨rfl, below_step HB0.out HB.out⟩)
end Go.Proofs.Ytaoflcmjmhfblaa.Q
