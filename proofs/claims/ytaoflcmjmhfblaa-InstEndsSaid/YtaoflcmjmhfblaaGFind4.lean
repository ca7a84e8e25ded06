/- inst.find: the regions of its last ways. -/
import Derived.Test.YtaoflcmjmhfblaaGFind2
import Derived.Test.YtaoflcmjmhfblaaGReg
namespace Go.Proofs.Ytaoflcmjmhfblaa.I
open Go.RowKit Go.Proofs.YtaoflcmjmhfblaaW.PrintWords Go.Proofs.YtaoflcmjmhfblaaW.PrintLast Go.Proofs.YtaoflcmjmhfblaaW.PrintMore Go.Proofs.Ytaoflcmjmhfblaa.H Go.Shelf
set_option linter.unusedVariables false
set_option linter.unusedSimpArgs false
set_option maxHeartbeats 4000000 in
set_option maxRecDepth 100000 in
theorem find_reg6 (i : InV) (b : Bool) (g3 g6 : Nat) (w : World) (h36 : g3 ≠ g6) {Q : Exit → Act → World → Prop} (a0 : Act) (W0 : World) (hs : a0.tmps.size = 66) (hdf : a0.defers = []) (f3 : a0.eval (.tmp 3) = .pointer (some ⟨g3, 0, none⟩)) (f6 : a0.eval (.tmp 6) = .pointer (some ⟨g6, 0, none⟩)) (f10 : a0.eval (.tmp 10) = .bool b) (J : Bool → World → Prop) (hJJ : J = fun b W => Below w.heap.size w W ∧ W.heap[g3]? = some (.cells i.cells 34 (0, 0)) ∧ w.heap.size ≤ g6 ∧ W.heap[g6]? = some (.cells (rowC (if b = true then endR else zeroR)) 133 (0, 0))) (hJ0 : J false W0.drew) (hQ : ∀ a W L, VInv [(0, 48, (encR endR)), (1, 49, .bool b), (2, 50, .bool b), (3, 51, (if b = false then .pointer (some ⟨g3, 5, none⟩) else undef)), (4, 52, (if b = false then .int .u8 i.state else undef)), (5, 53, (if b = false then .bool (decide (i.state = 8)) else undef)), (6, 54, .bool (b || decide (i.state = 8))), (8, 7, .bool (b || decide (i.state = 8)))] [48, 49, 50, 51, 52, 53, 54, 7] a0 L a → (∀ i, i < 9 → L i = true) → J true W → Q .normal a W) : (Code.region 6 #[{ dst := some 48, op := Op.call { callee := Callee.value (Operand.func 145), args := #[], argTypes := #[] }, type := 133, pos := "inst.go:82", after := #[], guard := none }, { dst := some 49, op := Op.move (Operand.tmp 10), type := 4, pos := "inst.go:82", after := #[], guard := none }, { dst := some 50, op := Op.move (Operand.tmp 49), type := 4, pos := "inst.go:82", after := #[{ on := 1, ground := Ground.data }, { on := 0, ground := Ground.chain }], guard := none }, { dst := some 51, op := Op.fieldAddr 34 (Operand.tmp 3) 5, type := 0, pos := "inst.go:82", after := #[{ on := 2, ground := Ground.guard }, { on := 7, ground := Ground.gcOnly Departure.lateStores }], guard := some (2, false) }, { dst := some 52, op := Op.load 5 (Operand.tmp 51), type := 5, pos := "inst.go:82", after := #[{ on := 3, ground := Ground.data }, { on := 2, ground := Ground.guard }, { on := 7, ground := Ground.gcOnly Departure.lateStores }], guard := some (2, false) }, { dst := some 53, op := Op.binOp BinOp.eql 5 (Operand.tmp 52) (Operand.const (Value.int IntKind.u8 8)) 5, type := 4, pos := "inst.go:82", after := #[{ on := 4, ground := Ground.data }, { on := 2, ground := Ground.guard }, { on := 7, ground := Ground.gcOnly Departure.lateStores }], guard := some (2, false) }, { dst := some 54, op := Op.pick (Operand.tmp 50) (Operand.const (Value.bool true)) (Operand.tmp 53), type := 4, pos := "inst.go:82", after := #[{ on := 2, ground := Ground.data }, { on := 5, ground := Ground.data }, { on := 7, ground := Ground.gcOnly Departure.lateStores }], guard := none }, { dst := none, op := Op.store 133 (Operand.tmp 6) (Operand.tmp 48), type := 0, pos := "inst.go:82", after := #[{ on := 0, ground := Ground.data }, { on := 2, ground := Ground.chain }, { on := 0, ground := Ground.phase }, { on := 1, ground := Ground.textOnly Departure.lateStores }, { on := 2, ground := Ground.textOnly Departure.lateStores }, { on := 3, ground := Ground.textOnly Departure.lateStores }, { on := 4, ground := Ground.textOnly Departure.lateStores }, { on := 5, ground := Ground.textOnly Departure.lateStores }, { on := 6, ground := Ground.textOnly Departure.lateStores }], guard := none }, { dst := some 7, op := Op.assign (Operand.tmp 54), type := 4, pos := "inst.go:82", after := #[{ on := 6, ground := Ground.data }, { on := 7, ground := Ground.chain }, { on := 0, ground := Ground.phase }, { on := 1, ground := Ground.phase }, { on := 2, ground := Ground.phase }, { on := 3, ground := Ground.phase }, { on := 4, ground := Ground.phase }, { on := 5, ground := Ground.phase }, { on := 6, ground := Ground.phase }, { on := 7, ground := Ground.phase }], guard := none }] true).wp Try.prog Q a0 W0 := by
  refine wp_region_inv_at (by kernel_rfl) (fun a0 L a W => a0.tmps.size = 66 ∧ VInv [(0, 48, (encR endR)), (1, 49, .bool b), (2, 50, .bool b), (3, 51, (if b = false then .pointer (some ⟨g3, 5, none⟩) else undef)), (4, 52, (if b = false then .int .u8 i.state else undef)), (5, 53, (if b = false then .bool (decide (i.state = 8)) else undef)), (6, 54, .bool (b || decide (i.state = 8))), (8, 7, .bool (b || decide (i.state = 8)))] [48, 49, 50, 51, 52, 53, 54, 7] a0 L a ∧ J (L 7) W) (by kernel_rfl) ⟨hs, VInv.start _ _ _, hJ0⟩ ?_ ?_
  · intro L i' o a W K hI ho hL hdep0 hK
    obtain ⟨hs, hV, hJ⟩ := hI
    have e3 := (hV.keep 3 (by decide)).trans f3
    have e6 := (hV.keep 6 (by decide)).trans f6
    have e10 := (hV.keep 10 (by decide)).trans f10
    have hdep := deps o hdep0
    clear hdep0
    match i', ho with
    | 0, ho =>
      simp only [List.getElem?_toArray, List.getElem?_cons_zero, List.getElem?_cons_succ, Option.some.injEq] at ho
      subst ho
      rw [hJJ] at hJ
      refine stp_call rfl Try.func145 (by kernel_rfl) rfl rfl (args := #[]) (by simp) ?_
      refine (end_calls W).mono ?_
      rintro e w2 ⟨rfl, hb2⟩
      have hJ2 : J (L 7) w2 := by
        rw [hJJ]
        exact ⟨below_step hJ.1 hb2, (hb2.block _ (Array.getElem?_eq_some_iff.1 hJ.2.1).1).trans hJ.2.1, hJ.2.2.1, (hb2.block _ (Array.getElem?_eq_some_iff.1 hJ.2.2.2).1).trans hJ.2.2.2⟩
      exact ⟨_, rfl, hK _ _ ⟨hs, hV.put (by show List.Nodup [0, 1, 2, 3, 4, 5, 6, 8]; decide) (by show List.Nodup [48, 49, 50, 51, 52, 53, 54, 7]; decide) 0 rfl (by decide) (by rw [hs]; decide), (by show J (addL L 0 7) _; rw [addL_ne L (by decide)]; exact hJ2)⟩⟩
    | 1, ho =>
      simp only [List.getElem?_toArray, List.getElem?_cons_zero, List.getElem?_cons_succ, Option.some.injEq] at ho
      subst ho
      have E10 := e10
      refine stp_move rfl (by first | exact .inl rfl | exact .inr rfl) ?_
      rw [E10]
      exact hK _ _ ⟨hs, hV.put (by show List.Nodup [0, 1, 2, 3, 4, 5, 6, 8]; decide) (by show List.Nodup [48, 49, 50, 51, 52, 53, 54, 7]; decide) 1 rfl (by decide) (by rw [hs]; decide), (by show J (addL L 1 7) _; rw [addL_ne L (by decide)]; exact hJ)⟩
    | 2, ho =>
      simp only [List.getElem?_toArray, List.getElem?_cons_zero, List.getElem?_cons_succ, Option.some.injEq] at ho
      subst ho
      have E49 := hV.get 1 rfl (hdep 1 (by decide))
      refine stp_move rfl (by first | exact .inl rfl | exact .inr rfl) ?_
      rw [E49]
      exact hK _ _ ⟨hs, hV.put (by show List.Nodup [0, 1, 2, 3, 4, 5, 6, 8]; decide) (by show List.Nodup [48, 49, 50, 51, 52, 53, 54, 7]; decide) 2 rfl (by decide) (by rw [hs]; decide), (by show J (addL L 2 7) _; rw [addL_ne L (by decide)]; exact hJ)⟩
    | 3, ho =>
      simp only [List.getElem?_toArray, List.getElem?_cons_zero, List.getElem?_cons_succ, Option.some.injEq] at ho
      subst ho
      have E3 := e3
      have EG := hV.get 2 rfl (hdep 2 (by decide))
      refine stp_guard1 (s := 50) (v := .pointer (some ⟨g3, 5, none⟩)) (V := (if b = false then .pointer (some ⟨g3, 5, none⟩) else undef)) (.tmp 3) _ rfl rfl rfl EG E3 (fun hb ρ hc hρ => by clear hV hK; first | (go_simp; done) | (go_simp; rfl)) (fun hb => if_neg hb) (fun hb => if_pos hb) ?_
      exact hK _ _ ⟨hs, hV.put (by show List.Nodup [0, 1, 2, 3, 4, 5, 6, 8]; decide) (by show List.Nodup [48, 49, 50, 51, 52, 53, 54, 7]; decide) 3 rfl (by decide) (by rw [hs]; decide), (by show J (addL L 3 7) _; rw [addL_ne L (by decide)]; exact hJ)⟩
    | 4, ho =>
      simp only [List.getElem?_toArray, List.getElem?_cons_zero, List.getElem?_cons_succ, Option.some.injEq] at ho
      subst ho
      have E51 := hV.get 3 rfl (hdep 3 (by decide))
      have EG := hV.get 2 rfl (hdep 2 (by decide))
      have hJ' := hJ
      rw [hJJ] at hJ'
      have hc3 : W.cell? ⟨g3, 5, none⟩ = some (.int .u8 i.state) := (blk_cell hJ'.2.1 5).trans rfl
      refine stp_guard1 (s := 50) (v := .int .u8 i.state) (V := (if b = false then .int .u8 i.state else undef)) (.tmp 51) _ rfl rfl rfl EG E51 (fun hb ρ hc hρ => by rw [if_pos hb] at hρ; clear hV hK hJ'; first | (go_simp; done) | (go_simp; rfl)) (fun hb => if_neg hb) (fun hb => if_pos hb) ?_
      exact hK _ _ ⟨hs, hV.put (by show List.Nodup [0, 1, 2, 3, 4, 5, 6, 8]; decide) (by show List.Nodup [48, 49, 50, 51, 52, 53, 54, 7]; decide) 4 rfl (by decide) (by rw [hs]; decide), (by show J (addL L 4 7) _; rw [addL_ne L (by decide)]; exact hJ)⟩
    | 5, ho =>
      simp only [List.getElem?_toArray, List.getElem?_cons_zero, List.getElem?_cons_succ, Option.some.injEq] at ho
      subst ho
      have E52 := hV.get 4 rfl (hdep 4 (by decide))
      have EG := hV.get 2 rfl (hdep 2 (by decide))
      refine stp_guard1 (s := 50) (v := .bool (decide (i.state = 8))) (V := (if b = false then .bool (decide (i.state = 8)) else undef)) (.tmp 52) _ rfl rfl rfl EG E52 (fun hb ρ hc hρ => by rw [if_pos hb] at hρ; clear hV hK; first | (go_simp; done) | (go_simp; rfl)) (fun hb => if_neg hb) (fun hb => if_pos hb) ?_
      exact hK _ _ ⟨hs, hV.put (by show List.Nodup [0, 1, 2, 3, 4, 5, 6, 8]; decide) (by show List.Nodup [48, 49, 50, 51, 52, 53, 54, 7]; decide) 5 rfl (by decide) (by rw [hs]; decide), (by show J (addL L 5 7) _; rw [addL_ne L (by decide)]; exact hJ)⟩
    | 6, ho =>
      simp only [List.getElem?_toArray, List.getElem?_cons_zero, List.getElem?_cons_succ, Option.some.injEq] at ho
      subst ho
      have E50 := hV.get 2 rfl (hdep 2 (by decide))
      have E53 := hV.get 5 rfl (hdep 5 (by decide))
      refine stp2 (v := .bool (b || decide (i.state = 8))) (w' := W) (.tmp 50) _ (.tmp 53) _ rfl E50 E53 (fun ρ hc hρ hρ2 => by clear hV hK; cases b <;> simp only [reduceIte, Bool.false_eq_true, Bool.true_eq_false] at hρ hρ2 <;> (first | (go_simp; done) | (go_simp; rfl))) ?_
      exact hK _ _ ⟨hs, hV.put (by show List.Nodup [0, 1, 2, 3, 4, 5, 6, 8]; decide) (by show List.Nodup [48, 49, 50, 51, 52, 53, 54, 7]; decide) 6 rfl (by decide) (by rw [hs]; decide), (by show J (addL L 6 7) _; rw [addL_ne L (by decide)]; exact hJ)⟩
    | 7, ho =>
      simp only [List.getElem?_toArray, List.getElem?_cons_zero, List.getElem?_cons_succ, Option.some.injEq] at ho
      subst ho
      have E6 := e6
      have E48 := hV.get 0 rfl (hdep 0 (by decide))
      rw [hL, hJJ] at hJ
      simp only [Bool.false_eq_true, if_false] at hJ
      refine ⟨fun _ => wp_store_row 133 _ _ rfl g6 (rowC endR) E6 E48 133 _ hJ.2.2.2 (by kernel_rfl) rfl (by simp [rowC, Value.oneCell']) ?_, fun h2 => absurd h2 (by simp [Region.wanted])⟩
      have hJ2 : J true (W.setRow g6 (rowC endR)) := by
        rw [hJJ]
        exact ⟨below_setRow hJ.1 hJ.2.2.1 _, (setRow_other W g6 g3 _ h36).trans hJ.2.1, hJ.2.2.1, setRow_heap W g6 _ _ _ _ hJ.2.2.2⟩
      exact hK _ _ ⟨hs, hV.skip (by show ¬ 7 ∈ [0, 1, 2, 3, 4, 5, 6, 8]; decide), (by show J (addL L 7 7) _; rw [addL_self]; exact hJ2)⟩
    | 8, ho =>
      simp only [List.getElem?_toArray, List.getElem?_cons_zero, List.getElem?_cons_succ, Option.some.injEq] at ho
      subst ho
      have E54 := hV.get 6 rfl (hdep 6 (by decide))
      refine stp_move rfl (by first | exact .inl rfl | exact .inr rfl) ?_
      rw [E54]
      exact hK _ _ ⟨hs, hV.put (by show List.Nodup [0, 1, 2, 3, 4, 5, 6, 8]; decide) (by show List.Nodup [48, 49, 50, 51, 52, 53, 54, 7]; decide) 7 rfl (by decide) (by rw [hs]; decide), (by show J (addL L 8 7) _; rw [addL_ne L (by decide)]; exact hJ)⟩
    | i' + 9, ho => simp at ho
  · intro L a W hI hall
    obtain ⟨_, hV, hJ⟩ := hI
    rw [hall 7 (by decide)] at hJ
    exact hQ _ _ _ hV hall hJ
set_option maxHeartbeats 4000000 in
set_option maxRecDepth 100000 in
theorem find_reg8 (i : InV) (b : Bool) (g3 g6 : Nat) (w : World) (h36 : g3 ≠ g6) {Q : Exit → Act → World → Prop} (a0 : Act) (W0 : World) (hs : a0.tmps.size = 66) (hdf : a0.defers = []) (f3 : a0.eval (.tmp 3) = .pointer (some ⟨g3, 0, none⟩)) (f6 : a0.eval (.tmp 6) = .pointer (some ⟨g6, 0, none⟩)) (f10 : a0.eval (.tmp 10) = .bool b) (J : Bool → World → Prop) (hJJ : J = fun b W => Below w.heap.size w W ∧ W.heap[g3]? = some (.cells i.cells 34 (0, 0)) ∧ w.heap.size ≤ g6 ∧ W.heap[g6]? = some (.cells (rowC (if b = true then endR else zeroR)) 133 (0, 0))) (hJ0 : J false W0.drew) (hQ : ∀ a W L, VInv [(0, 58, (encR endR)), (1, 59, .bool b), (2, 60, .bool b), (3, 61, (if b = false then .pointer (some ⟨g3, 5, none⟩) else undef)), (4, 62, (if b = false then .int .u8 i.state else undef)), (5, 63, (if b = false then .bool (decide (i.state = 5)) else undef)), (6, 64, .bool (b || decide (i.state = 5))), (8, 7, .bool (b || decide (i.state = 5)))] [58, 59, 60, 61, 62, 63, 64, 7] a0 L a → (∀ i, i < 9 → L i = true) → J true W → Q .normal a W) : (Code.region 8 #[{ dst := some 58, op := Op.call { callee := Callee.value (Operand.func 145), args := #[], argTypes := #[] }, type := 133, pos := "inst.go:84", after := #[], guard := none }, { dst := some 59, op := Op.move (Operand.tmp 10), type := 4, pos := "inst.go:84", after := #[], guard := none }, { dst := some 60, op := Op.move (Operand.tmp 59), type := 4, pos := "inst.go:84", after := #[{ on := 1, ground := Ground.data }, { on := 0, ground := Ground.chain }], guard := none }, { dst := some 61, op := Op.fieldAddr 34 (Operand.tmp 3) 5, type := 0, pos := "inst.go:84", after := #[{ on := 2, ground := Ground.guard }, { on := 7, ground := Ground.gcOnly Departure.lateStores }], guard := some (2, false) }, { dst := some 62, op := Op.load 5 (Operand.tmp 61), type := 5, pos := "inst.go:84", after := #[{ on := 3, ground := Ground.data }, { on := 2, ground := Ground.guard }, { on := 7, ground := Ground.gcOnly Departure.lateStores }], guard := some (2, false) }, { dst := some 63, op := Op.binOp BinOp.eql 5 (Operand.tmp 62) (Operand.const (Value.int IntKind.u8 5)) 5, type := 4, pos := "inst.go:84", after := #[{ on := 4, ground := Ground.data }, { on := 2, ground := Ground.guard }, { on := 7, ground := Ground.gcOnly Departure.lateStores }], guard := some (2, false) }, { dst := some 64, op := Op.pick (Operand.tmp 60) (Operand.const (Value.bool true)) (Operand.tmp 63), type := 4, pos := "inst.go:84", after := #[{ on := 2, ground := Ground.data }, { on := 5, ground := Ground.data }, { on := 7, ground := Ground.gcOnly Departure.lateStores }], guard := none }, { dst := none, op := Op.store 133 (Operand.tmp 6) (Operand.tmp 58), type := 0, pos := "inst.go:84", after := #[{ on := 0, ground := Ground.data }, { on := 2, ground := Ground.chain }, { on := 0, ground := Ground.phase }, { on := 1, ground := Ground.textOnly Departure.lateStores }, { on := 2, ground := Ground.textOnly Departure.lateStores }, { on := 3, ground := Ground.textOnly Departure.lateStores }, { on := 4, ground := Ground.textOnly Departure.lateStores }, { on := 5, ground := Ground.textOnly Departure.lateStores }, { on := 6, ground := Ground.textOnly Departure.lateStores }], guard := none }, { dst := some 7, op := Op.assign (Operand.tmp 64), type := 4, pos := "inst.go:84", after := #[{ on := 6, ground := Ground.data }, { on := 7, ground := Ground.chain }, { on := 0, ground := Ground.phase }, { on := 1, ground := Ground.phase }, { on := 2, ground := Ground.phase }, { on := 3, ground := Ground.phase }, { on := 4, ground := Ground.phase }, { on := 5, ground := Ground.phase }, { on := 6, ground := Ground.phase }, { on := 7, ground := Ground.phase }], guard := none }] true).wp Try.prog Q a0 W0 := by
  refine wp_region_inv_at (by kernel_rfl) (fun a0 L a W => a0.tmps.size = 66 ∧ VInv [(0, 58, (encR endR)), (1, 59, .bool b), (2, 60, .bool b), (3, 61, (if b = false then .pointer (some ⟨g3, 5, none⟩) else undef)), (4, 62, (if b = false then .int .u8 i.state else undef)), (5, 63, (if b = false then .bool (decide (i.state = 5)) else undef)), (6, 64, .bool (b || decide (i.state = 5))), (8, 7, .bool (b || decide (i.state = 5)))] [58, 59, 60, 61, 62, 63, 64, 7] a0 L a ∧ J (L 7) W) (by kernel_rfl) ⟨hs, VInv.start _ _ _, hJ0⟩ ?_ ?_
  · intro L i' o a W K hI ho hL hdep0 hK
    obtain ⟨hs, hV, hJ⟩ := hI
    have e3 := (hV.keep 3 (by decide)).trans f3
    have e6 := (hV.keep 6 (by decide)).trans f6
    have e10 := (hV.keep 10 (by decide)).trans f10
    have hdep := deps o hdep0
    clear hdep0
    match i', ho with
    | 0, ho =>
      simp only [List.getElem?_toArray, List.getElem?_cons_zero, List.getElem?_cons_succ, Option.some.injEq] at ho
      subst ho
      rw [hJJ] at hJ
      refine stp_call rfl Try.func145 (by kernel_rfl) rfl rfl (args := #[]) (by simp) ?_
      refine (end_calls W).mono ?_
      rintro e w2 ⟨rfl, hb2⟩
      have hJ2 : J (L 7) w2 := by
        rw [hJJ]
        exact ⟨below_step hJ.1 hb2, (hb2.block _ (Array.getElem?_eq_some_iff.1 hJ.2.1).1).trans hJ.2.1, hJ.2.2.1, (hb2.block _ (Array.getElem?_eq_some_iff.1 hJ.2.2.2).1).trans hJ.2.2.2⟩
      exact ⟨_, rfl, hK _ _ ⟨hs, hV.put (by show List.Nodup [0, 1, 2, 3, 4, 5, 6, 8]; decide) (by show List.Nodup [58, 59, 60, 61, 62, 63, 64, 7]; decide) 0 rfl (by decide) (by rw [hs]; decide), (by show J (addL L 0 7) _; rw [addL_ne L (by decide)]; exact hJ2)⟩⟩
    | 1, ho =>
      simp only [List.getElem?_toArray, List.getElem?_cons_zero, List.getElem?_cons_succ, Option.some.injEq] at ho
      subst ho
      have E10 := e10
      refine stp_move rfl (by first | exact .inl rfl | exact .inr rfl) ?_
      rw [E10]
      exact hK _ _ ⟨hs, hV.put (by show List.Nodup [0, 1, 2, 3, 4, 5, 6, 8]; decide) (by show List.Nodup [58, 59, 60, 61, 62, 63, 64, 7]; decide) 1 rfl (by decide) (by rw [hs]; decide), (by show J (addL L 1 7) _; rw [addL_ne L (by decide)]; exact hJ)⟩
    | 2, ho =>
      simp only [List.getElem?_toArray, List.getElem?_cons_zero, List.getElem?_cons_succ, Option.some.injEq] at ho
      subst ho
      have E59 := hV.get 1 rfl (hdep 1 (by decide))
      refine stp_move rfl (by first | exact .inl rfl | exact .inr rfl) ?_
      rw [E59]
      exact hK _ _ ⟨hs, hV.put (by show List.Nodup [0, 1, 2, 3, 4, 5, 6, 8]; decide) (by show List.Nodup [58, 59, 60, 61, 62, 63, 64, 7]; decide) 2 rfl (by decide) (by rw [hs]; decide), (by show J (addL L 2 7) _; rw [addL_ne L (by decide)]; exact hJ)⟩
    | 3, ho =>
      simp only [List.getElem?_toArray, List.getElem?_cons_zero, List.getElem?_cons_succ, Option.some.injEq] at ho
      subst ho
      have E3 := e3
      have EG := hV.get 2 rfl (hdep 2 (by decide))
      refine stp_guard1 (s := 60) (v := .pointer (some ⟨g3, 5, none⟩)) (V := (if b = false then .pointer (some ⟨g3, 5, none⟩) else undef)) (.tmp 3) _ rfl rfl rfl EG E3 (fun hb ρ hc hρ => by clear hV hK; first | (go_simp; done) | (go_simp; rfl)) (fun hb => if_neg hb) (fun hb => if_pos hb) ?_
      exact hK _ _ ⟨hs, hV.put (by show List.Nodup [0, 1, 2, 3, 4, 5, 6, 8]; decide) (by show List.Nodup [58, 59, 60, 61, 62, 63, 64, 7]; decide) 3 rfl (by decide) (by rw [hs]; decide), (by show J (addL L 3 7) _; rw [addL_ne L (by decide)]; exact hJ)⟩
    | 4, ho =>
      simp only [List.getElem?_toArray, List.getElem?_cons_zero, List.getElem?_cons_succ, Option.some.injEq] at ho
      subst ho
      have E61 := hV.get 3 rfl (hdep 3 (by decide))
      have EG := hV.get 2 rfl (hdep 2 (by decide))
      have hJ' := hJ
      rw [hJJ] at hJ'
      have hc3 : W.cell? ⟨g3, 5, none⟩ = some (.int .u8 i.state) := (blk_cell hJ'.2.1 5).trans rfl
      refine stp_guard1 (s := 60) (v := .int .u8 i.state) (V := (if b = false then .int .u8 i.state else undef)) (.tmp 61) _ rfl rfl rfl EG E61 (fun hb ρ hc hρ => by rw [if_pos hb] at hρ; clear hV hK hJ'; first | (go_simp; done) | (go_simp; rfl)) (fun hb => if_neg hb) (fun hb => if_pos hb) ?_
      exact hK _ _ ⟨hs, hV.put (by show List.Nodup [0, 1, 2, 3, 4, 5, 6, 8]; decide) (by show List.Nodup [58, 59, 60, 61, 62, 63, 64, 7]; decide) 4 rfl (by decide) (by rw [hs]; decide), (by show J (addL L 4 7) _; rw [addL_ne L (by decide)]; exact hJ)⟩
    | 5, ho =>
      simp only [List.getElem?_toArray, List.getElem?_cons_zero, List.getElem?_cons_succ, Option.some.injEq] at ho
      subst ho
      have E62 := hV.get 4 rfl (hdep 4 (by decide))
      have EG := hV.get 2 rfl (hdep 2 (by decide))
      refine stp_guard1 (s := 60) (v := .bool (decide (i.state = 5))) (V := (if b = false then .bool (decide (i.state = 5)) else undef)) (.tmp 62) _ rfl rfl rfl EG E62 (fun hb ρ hc hρ => by rw [if_pos hb] at hρ; clear hV hK; first | (go_simp; done) | (go_simp; rfl)) (fun hb => if_neg hb) (fun hb => if_pos hb) ?_
      exact hK _ _ ⟨hs, hV.put (by show List.Nodup [0, 1, 2, 3, 4, 5, 6, 8]; decide) (by show List.Nodup [58, 59, 60, 61, 62, 63, 64, 7]; decide) 5 rfl (by decide) (by rw [hs]; decide), (by show J (addL L 5 7) _; rw [addL_ne L (by decide)]; exact hJ)⟩
    | 6, ho =>
      simp only [List.getElem?_toArray, List.getElem?_cons_zero, List.getElem?_cons_succ, Option.some.injEq] at ho
      subst ho
      have E60 := hV.get 2 rfl (hdep 2 (by decide))
      have E63 := hV.get 5 rfl (hdep 5 (by decide))
      refine stp2 (v := .bool (b || decide (i.state = 5))) (w' := W) (.tmp 60) _ (.tmp 63) _ rfl E60 E63 (fun ρ hc hρ hρ2 => by clear hV hK; cases b <;> simp only [reduceIte, Bool.false_eq_true, Bool.true_eq_false] at hρ hρ2 <;> (first | (go_simp; done) | (go_simp; rfl))) ?_
      exact hK _ _ ⟨hs, hV.put (by show List.Nodup [0, 1, 2, 3, 4, 5, 6, 8]; decide) (by show List.Nodup [58, 59, 60, 61, 62, 63, 64, 7]; decide) 6 rfl (by decide) (by rw [hs]; decide), (by show J (addL L 6 7) _; rw [addL_ne L (by decide)]; exact hJ)⟩
    | 7, ho =>
      simp only [List.getElem?_toArray, List.getElem?_cons_zero, List.getElem?_cons_succ, Option.some.injEq] at ho
      subst ho
      have E6 := e6
      have E58 := hV.get 0 rfl (hdep 0 (by decide))
      rw [hL, hJJ] at hJ
      simp only [Bool.false_eq_true, if_false] at hJ
      refine ⟨fun _ => wp_store_row 133 _ _ rfl g6 (rowC endR) E6 E58 133 _ hJ.2.2.2 (by kernel_rfl) rfl (by simp [rowC, Value.oneCell']) ?_, fun h2 => absurd h2 (by simp [Region.wanted])⟩
      have hJ2 : J true (W.setRow g6 (rowC endR)) := by
        rw [hJJ]
        exact ⟨below_setRow hJ.1 hJ.2.2.1 _, (setRow_other W g6 g3 _ h36).trans hJ.2.1, hJ.2.2.1, setRow_heap W g6 _ _ _ _ hJ.2.2.2⟩
      exact hK _ _ ⟨hs, hV.skip (by show ¬ 7 ∈ [0, 1, 2, 3, 4, 5, 6, 8]; decide), (by show J (addL L 7 7) _; rw [addL_self]; exact hJ2)⟩
    | 8, ho =>
      simp only [List.getElem?_toArray, List.getElem?_cons_zero, List.getElem?_cons_succ, Option.some.injEq] at ho
      subst ho
      have E64 := hV.get 6 rfl (hdep 6 (by decide))
      refine stp_move rfl (by first | exact .inl rfl | exact .inr rfl) ?_
      rw [E64]
      exact hK _ _ ⟨hs, hV.put (by show List.Nodup [0, 1, 2, 3, 4, 5, 6, 8]; decide) (by show List.Nodup [58, 59, 60, 61, 62, 63, 64, 7]; decide) 7 rfl (by decide) (by rw [hs]; decide), (by show J (addL L 8 7) _; rw [addL_ne L (by decide)]; exact hJ)⟩
    | i' + 9, ho => simp at ho
  · intro L a W hI hall
    obtain ⟨_, hV, hJ⟩ := hI
    rw [hall 7 (by decide)] at hJ
    exact hQ _ _ _ hV hall hJ
end Go.Proofs.Ytaoflcmjmhfblaa.I
