/- inst.find. -/
import Derived.Test.YtaoflcmjmhfblaaGFind2
import Derived.Test.YtaoflcmjmhfblaaGFind4
namespace Go.Proofs.Ytaoflcmjmhfblaa.I
open Go.RowKit Go.Proofs.YtaoflcmjmhfblaaW.PrintWords Go.Proofs.YtaoflcmjmhfblaaW.PrintLast Go.Proofs.YtaoflcmjmhfblaaW.PrintMore Go.Proofs.Ytaoflcmjmhfblaa.H Go.Shelf
set_option linter.unusedVariables false
set_option linter.unusedSimpArgs false
theorem beq_dec (a b : Int) : (a == b) = decide (a = b) := rfl
theorem eval_tmp' (a : Act) (k : Nat) : a.tmps.getD k undef = a.eval (.tmp k) := rfl
theorem map_getD (t : Option RowV) : (t.map encR).getD (encR (0, 0, false, 0)) = encR (t.getD zeroR) := by cases t <;> rfl
/-- A frame, written out. -/
theorem act_lit (a : Act) (n : Nat) (hs : a.tmps.size = n) (hd : a.defers = []) : a = { tmps := ((List.range n).map fun k => a.eval (.tmp k)).toArray, defers := [] } := by
  obtain ⟨t, d⟩ := a
  simp only at hs hd
  subst hd
  congr 1
  apply Array.ext
  · simp [hs]
  · intro i h1 h2
    simp [Act.eval, Array.getD_eq_getD_getElem?, h1]
theorem build_pair (a : Act) (x y : Operand) (o : Oper) {s what : Int} (W : World) (hx : a.eval x = .int .u8 s) (hy : a.eval y = .int .u8 what) (ho : o.op = .build 199 #[(0, x), (1, y)]) : (execOp a.eval o).run Try.prog W = .ok (.value (encP (s, what))) W := by
  unfold execOp encP
  simp only [ho, List.map_toArray, List.map_cons, List.map_nil, hx, hy]
  go_simp
def FindI (c : CfV) (s what : Int) (g3 : Nat) (w0 : World) (a0 : Act) (L : Nat → Bool) (a : Act) (W : World) : Prop := ∃ B l g8, FInv c s what g3 w0 a0 L a W B l g8
set_option maxHeartbeats 4000000 in
set_option maxRecDepth 100000 in
theorem find_calls (i : InV) (what : Int) (c : CfV) (w : World) : Calls Try.prog 75 #[i.val, .int .u8 what, c.val] w fun e w' => e = .returned (.tuple #[encR (findR i what c).1, .bool (findR i what c).2]) ∧ Below w.heap.size w w' := by
  obtain ⟨fr, hfr⟩ : ∃ fr, findR i what c = fr := ⟨_, rfl⟩
  rw [hfr]
  have HFR := Lib.hid hfr
  clear hfr
  simp only [InV.val, InV.cells, CfV.val, CfV.cells]
  have HBel : Below w.heap.size w w := Below.refl _ _
  go_enter Try.func75, Try.ntmps75
  go_upto_region 1 with fail
  refine gen_act2 (fun a0 W => (a0.tmps.size = 66 ∧ a0.defers = [] ∧ a0.eval (.tmp 1) = .int .u8 what ∧ a0.eval (.tmp 3) = .pointer (some ⟨w.heap.size, 0, none⟩) ∧ a0.eval (.tmp 5) = .pointer (some ⟨w.heap.size + 1, 0, none⟩) ∧ a0.eval (.tmp 6) = .pointer (some ⟨w.heap.size + 1 + 1, 0, none⟩) ∧ a0.eval (.tmp 7) = .bool false) ∧ W.heap[w.heap.size]? = some (.cells i.cells 34 (0, 0)) ∧ W.heap[w.heap.size + 1]? = some (.cells c.cells 41 (0, 0)) ∧ W.heap[w.heap.size + 1 + 1]? = some (.cells (rowC zeroR) 133 (0, 0)) ∧ Below w.heap.size w W) ⟨⟨rfl, rfl, rfl, rfl, rfl, rfl, rfl⟩, ?_, ?_, ?_, ?_⟩ ?_
  · simp only [InV.cells]
    exact alloc_old _ _ (alloc_old _ _ (heap_alloc_new _ _))
  · simp only [CfV.cells]
    exact alloc_old _ _ (newest _ _ _ (by simp))
  · simp only [rowC, zeroR]
    exact newest _ _ _ (by simp)
  · exact below_alloc (below_alloc (below_alloc HBel _) _) _
  rintro a0 W0 ⟨⟨hs, hdf, f1, f3, f5, f6, f7⟩, hW3, hW5, hW6, hBel⟩
  obtain ⟨s, hsv⟩ : ∃ s, i.state = s := ⟨_, rfl⟩
  obtain ⟨g3, hg3⟩ : ∃ g3, w.heap.size = g3 := ⟨_, rfl⟩
  have hB5 : ∀ W, Below W0.heap.size W0 W → W.heap[w.heap.size + 1]? = some (.cells c.cells 41 (0, 0)) := fun W hb => (hb.block _ (Array.getElem?_eq_some_iff.1 hW5).1).trans hW5
  have hC3 : ∀ W, Below W0.heap.size W0 W → W.cell? ⟨g3, 5, none⟩ = some (.int .u8 s) := by
    intro W hb
    have h := (hb.block _ (Array.getElem?_eq_some_iff.1 hW3).1).trans hW3
    rw [hg3] at h
    rw [← hsv]
    exact (blk_cell h 5).trans rfl
  refine wp_region_inv_at (by kernel_rfl) (FindI c s what g3 W0) (by kernel_rfl) ?_ ?_ ?_
  · exact ⟨0, [], 0, VInv.start _ _ _, below_drew (Below.refl _ _), (fun h => by cases h), (fun h => by cases h), (fun h => by cases h)⟩
  · intro L i' o a W K hI ho hL hdep0 hK
    obtain ⟨B, l, g8, hF⟩ := hI
    have e1 := (hF.v.keep 1 (by decide)).trans f1
    have e3 := (hF.v.keep 3 (by decide)).trans f3
    rw [hg3] at e3
    have e5 := (hF.v.keep 5 (by decide)).trans f5
    have hdep := deps o hdep0
    clear hdep0
    match i', ho with
    | 0, ho =>
      simp only [List.getElem?_toArray, List.getElem?_cons_zero, List.getElem?_cons_succ, Option.some.injEq] at ho
      subst ho
      refine stp_load rfl rfl e5 (hB5 W hF.below) Try.underlying41 rfl (by kernel_rfl) ?_
      exact hK _ _ ⟨B, l, g8, hF.val 0 rfl (by decide) (by decide) (by decide) (by rw [hs]; decide)⟩
    | 1, ho =>
      simp only [List.getElem?_toArray, List.getElem?_cons_zero, List.getElem?_cons_succ, Option.some.injEq] at ho
      subst ho
      have E12 := hF.v.get 0 rfl (hdep 0 (by decide))
      refine stp_call rfl Try.func144 (by kernel_rfl) rfl rfl (args := #[c.val]) (by simp only [List.map_toArray, List.map_cons, List.map_nil, E12]) ?_
      refine (rows_walk c W).mono ?_
      rintro e w2 ⟨B2, l2, rfl, _, hm2, hl2, hb2⟩
      exact ⟨_, rfl, hK _ _ ⟨B2, l2, g8, hF.call hb2 hm2 hl2 (by rw [hs]; decide)⟩⟩
    | 2, ho =>
      simp only [List.getElem?_toArray, List.getElem?_cons_zero, List.getElem?_cons_succ, Option.some.injEq] at ho
      subst ho
      refine stp1 (v := .pointer (some ⟨g3, 5, none⟩)) (w' := W) (.tmp 3) _ rfl e3 (fun ρ hc hρ => by clear hF hK; first | (go_simp; done) | (go_simp; rfl)) ?_
      exact hK _ _ ⟨B, l, g8, hF.val 1 rfl (by decide) (by decide) (by decide) (by rw [hs]; decide)⟩
    | 3, ho =>
      simp only [List.getElem?_toArray, List.getElem?_cons_zero, List.getElem?_cons_succ, Option.some.injEq] at ho
      subst ho
      have E14 := hF.v.get 1 rfl (hdep 2 (by decide))
      have hc5 := hC3 W hF.below
      refine stp1 (v := .int .u8 s) (w' := W) (.tmp 14) _ rfl E14 (fun ρ hc hρ => by clear hF hK; first | (go_simp; done) | (go_simp; rfl)) ?_
      exact hK _ _ ⟨B, l, g8, hF.val 2 rfl (by decide) (by decide) (by decide) (by rw [hs]; decide)⟩
    | 4, ho =>
      simp only [List.getElem?_toArray, List.getElem?_cons_zero, List.getElem?_cons_succ, Option.some.injEq] at ho
      subst ho
      refine stp_move rfl (by first | exact .inl rfl | exact .inr rfl) ?_
      rw [e1]
      exact hK _ _ ⟨B, l, g8, hF.val 3 rfl (by decide) (by decide) (by decide) (by rw [hs]; decide)⟩
    | 5, ho =>
      simp only [List.getElem?_toArray, List.getElem?_cons_zero, List.getElem?_cons_succ, Option.some.injEq] at ho
      subst ho
      have E15 := hF.v.get 2 rfl (hdep 3 (by decide))
      have E16 := hF.v.get 3 rfl (hdep 4 (by decide))
      refine stp (v := encP (s, what)) (w' := W) rfl (build_pair _ _ _ _ W E15 E16 rfl) ?_
      exact hK _ _ ⟨B, l, g8, hF.val 4 rfl (by decide) (by decide) (by decide) (by rw [hs]; decide)⟩
    | 6, ho =>
      simp only [List.getElem?_toArray, List.getElem?_cons_zero, List.getElem?_cons_succ, Option.some.injEq] at ho
      subst ho
      obtain ⟨EM, hm2, hl2⟩ := hF.map (hdep 1 (by decide))
      have EK := hF.v.get 4 rfl (hdep 5 (by decide))
      have hlook := lookT c hm2 hl2 s what
      refine stp (v := .tuple #[encR ((findT c s what).getD zeroR), .bool (findT c s what).isSome]) (w' := W) rfl (by rw [show (tabL (fun _ => true) (tabT c) (s, what)) = findT c s what from rfl, map_getD] at hlook; simp only [execOp, EM, EK, Sem.run_bind, Sem.run_pure]; unfold encP; simp only [hlook, Result.andThen_ok]) ?_
      exact hK _ _ ⟨B, l, g8, hF.val 5 rfl (by decide) (by decide) (by decide) (by rw [hs]; decide)⟩
    | 7, ho =>
      simp only [List.getElem?_toArray, List.getElem?_cons_zero, List.getElem?_cons_succ, Option.some.injEq] at ho
      subst ho
      have E18 := hF.v.get 5 rfl (hdep 6 (by decide))
      refine stp_move rfl (by first | exact .inl rfl | exact .inr rfl) ?_
      rw [E18]
      exact hK _ _ ⟨B, l, g8, hF.val 6 rfl (by decide) (by decide) (by decide) (by rw [hs]; decide)⟩
    | 8, ho =>
      simp only [List.getElem?_toArray, List.getElem?_cons_zero, List.getElem?_cons_succ, Option.some.injEq] at ho
      subst ho
      have E11 := hF.v.get 6 rfl (hdep 7 (by decide))
      refine stp1 (v := encR ((findT c s what).getD zeroR)) (w' := W) (.tmp 11) _ rfl E11 (fun ρ hc hρ => by clear hF hK; first | (go_simp; done) | (go_simp; rfl)) ?_
      exact hK _ _ ⟨B, l, g8, hF.val 7 rfl (by decide) (by decide) (by decide) (by rw [hs]; decide)⟩
    | 9, ho =>
      simp only [List.getElem?_toArray, List.getElem?_cons_zero, List.getElem?_cons_succ, Option.some.injEq] at ho
      subst ho
      have E11 := hF.v.get 6 rfl (hdep 7 (by decide))
      refine stp1 (v := .bool (findT c s what).isSome) (w' := W) (.tmp 11) _ rfl E11 (fun ρ hc hρ => by clear hF hK; first | (go_simp; done) | (go_simp; rfl)) ?_
      exact hK _ _ ⟨B, l, g8, hF.val 8 rfl (by decide) (by decide) (by decide) (by rw [hs]; decide)⟩
    | 10, ho =>
      simp only [List.getElem?_toArray, List.getElem?_cons_zero, List.getElem?_cons_succ, Option.some.injEq] at ho
      subst ho
      have h11 := (by cases hq : L 11 with | false => rfl | true => exact absurd (hF.ord hq) (by rw [hL]; decide) : L 11 = false)
      refine stp1 (v := .pointer (some ⟨W.heap.size, 0, none⟩)) (w' := W.alloc (.cells (rowC zeroR) 133 (0, 0))) (.tmp 1) _ rfl e1 (fun ρ hc hρ => by clear hF hK; first | (go_simp; done) | (go_simp; rfl)) ?_
      exact hK _ _ ⟨B, l, W.heap.size, hF.alloc h11 (by rw [hs]; decide)⟩
    | 11, ho =>
      simp only [List.getElem?_toArray, List.getElem?_cons_zero, List.getElem?_cons_succ, Option.some.injEq] at ho
      subst ho
      have h10 := hdep 10 (by decide)
      have E8 := (hF.row h10).1
      have hb8 := (hF.row h10).2.2.1 hL
      have E19 := hF.v.get 7 rfl (hdep 8 (by decide))
      refine ⟨fun _ => wp_store_row 133 _ _ rfl g8 (rowC ((findT c s what).getD zeroR)) E8 E19 133 _ hb8 (by kernel_rfl) rfl (by simp [rowC, Value.oneCell']) (hK _ _ ⟨B, l, g8, hF.store h10 hL⟩), fun h2 => absurd h2 (by simp [Region.wanted])⟩
    | 12, ho =>
      simp only [List.getElem?_toArray, List.getElem?_cons_zero, List.getElem?_cons_succ, Option.some.injEq] at ho
      subst ho
      have E20 := hF.v.get 8 rfl (hdep 9 (by decide))
      refine stp_move rfl (by first | exact .inl rfl | exact .inr rfl) ?_
      rw [E20]
      exact hK _ _ ⟨B, l, g8, hF.val 9 rfl (by decide) (by decide) (by decide) (by rw [hs]; decide)⟩
    | i' + 13, ho => simp at ho
  · intro L a W hI hall
    obtain ⟨B, l, g8, hF⟩ := hI
    have e1 := (hF.v.keep 1 (by decide)).trans f1
    have e3 := (hF.v.keep 3 (by decide)).trans f3
    have e5 := (hF.v.keep 5 (by decide)).trans f5
    have e6 := (hF.v.keep 6 (by decide)).trans f6
    have e7 := (hF.v.keep 7 (by decide)).trans f7
    obtain ⟨e8, hg8, _, hW8⟩ := hF.row (hall 10 (by decide))
    have hW8 := hW8 (hall 11 (by decide))
    have e9 := hF.v.get 9 rfl (hall 12 (by decide))
    have hb := hF.below
    have hW3' := (hb.block _ (Array.getElem?_eq_some_iff.1 hW3).1).trans hW3
    have hW6' := (hb.block _ (Array.getElem?_eq_some_iff.1 hW6).1).trans hW6
    have hBW := below_step hBel hb
    have ha := act_lit a 66 (hF.v.size.trans hs) (hF.v.defers.trans hdf)
    rw [show ((List.range 66).map fun k => a.eval (.tmp k)) = [a.eval (.tmp 0), a.eval (.tmp 1), a.eval (.tmp 2), a.eval (.tmp 3), a.eval (.tmp 4), a.eval (.tmp 5), a.eval (.tmp 6), a.eval (.tmp 7), a.eval (.tmp 8), a.eval (.tmp 9), a.eval (.tmp 10), a.eval (.tmp 11), a.eval (.tmp 12), a.eval (.tmp 13), a.eval (.tmp 14), a.eval (.tmp 15), a.eval (.tmp 16), a.eval (.tmp 17), a.eval (.tmp 18), a.eval (.tmp 19), a.eval (.tmp 20), a.eval (.tmp 21), a.eval (.tmp 22), a.eval (.tmp 23), a.eval (.tmp 24), a.eval (.tmp 25), a.eval (.tmp 26), a.eval (.tmp 27), a.eval (.tmp 28), a.eval (.tmp 29), a.eval (.tmp 30), a.eval (.tmp 31), a.eval (.tmp 32), a.eval (.tmp 33), a.eval (.tmp 34), a.eval (.tmp 35), a.eval (.tmp 36), a.eval (.tmp 37), a.eval (.tmp 38), a.eval (.tmp 39), a.eval (.tmp 40), a.eval (.tmp 41), a.eval (.tmp 42), a.eval (.tmp 43), a.eval (.tmp 44), a.eval (.tmp 45), a.eval (.tmp 46), a.eval (.tmp 47), a.eval (.tmp 48), a.eval (.tmp 49), a.eval (.tmp 50), a.eval (.tmp 51), a.eval (.tmp 52), a.eval (.tmp 53), a.eval (.tmp 54), a.eval (.tmp 55), a.eval (.tmp 56), a.eval (.tmp 57), a.eval (.tmp 58), a.eval (.tmp 59), a.eval (.tmp 60), a.eval (.tmp 61), a.eval (.tmp 62), a.eval (.tmp 63), a.eval (.tmp 64), a.eval (.tmp 65)] from rfl, e1, e3, e6, e7, e8, e9] at ha
    have h86 : w.heap.size + 1 + 1 < g8 := Nat.lt_of_lt_of_le (Array.getElem?_eq_some_iff.1 hW6).1 hg8
    obtain ⟨x0, hx0⟩ : ∃ x, a.eval (.tmp 0) = x := ⟨_, rfl⟩
    rw [hx0] at ha
    clear hx0
    obtain ⟨x2, hx2⟩ : ∃ x, a.eval (.tmp 2) = x := ⟨_, rfl⟩
    rw [hx2] at ha
    clear hx2
    obtain ⟨x4, hx4⟩ : ∃ x, a.eval (.tmp 4) = x := ⟨_, rfl⟩
    rw [hx4] at ha
    clear hx4
    obtain ⟨x5, hx5⟩ : ∃ x, a.eval (.tmp 5) = x := ⟨_, rfl⟩
    rw [hx5] at ha
    clear hx5
    obtain ⟨x10, hx10⟩ : ∃ x, a.eval (.tmp 10) = x := ⟨_, rfl⟩
    rw [hx10] at ha
    clear hx10
    obtain ⟨x11, hx11⟩ : ∃ x, a.eval (.tmp 11) = x := ⟨_, rfl⟩
    rw [hx11] at ha
    clear hx11
    obtain ⟨x12, hx12⟩ : ∃ x, a.eval (.tmp 12) = x := ⟨_, rfl⟩
    rw [hx12] at ha
    clear hx12
    obtain ⟨x13, hx13⟩ : ∃ x, a.eval (.tmp 13) = x := ⟨_, rfl⟩
    rw [hx13] at ha
    clear hx13
    obtain ⟨x14, hx14⟩ : ∃ x, a.eval (.tmp 14) = x := ⟨_, rfl⟩
    rw [hx14] at ha
    clear hx14
    obtain ⟨x15, hx15⟩ : ∃ x, a.eval (.tmp 15) = x := ⟨_, rfl⟩
    rw [hx15] at ha
    clear hx15
    obtain ⟨x16, hx16⟩ : ∃ x, a.eval (.tmp 16) = x := ⟨_, rfl⟩
    rw [hx16] at ha
    clear hx16
    obtain ⟨x17, hx17⟩ : ∃ x, a.eval (.tmp 17) = x := ⟨_, rfl⟩
    rw [hx17] at ha
    clear hx17
    obtain ⟨x18, hx18⟩ : ∃ x, a.eval (.tmp 18) = x := ⟨_, rfl⟩
    rw [hx18] at ha
    clear hx18
    obtain ⟨x19, hx19⟩ : ∃ x, a.eval (.tmp 19) = x := ⟨_, rfl⟩
    rw [hx19] at ha
    clear hx19
    obtain ⟨x20, hx20⟩ : ∃ x, a.eval (.tmp 20) = x := ⟨_, rfl⟩
    rw [hx20] at ha
    clear hx20
    obtain ⟨x21, hx21⟩ : ∃ x, a.eval (.tmp 21) = x := ⟨_, rfl⟩
    rw [hx21] at ha
    clear hx21
    obtain ⟨x22, hx22⟩ : ∃ x, a.eval (.tmp 22) = x := ⟨_, rfl⟩
    rw [hx22] at ha
    clear hx22
    obtain ⟨x23, hx23⟩ : ∃ x, a.eval (.tmp 23) = x := ⟨_, rfl⟩
    rw [hx23] at ha
    clear hx23
    obtain ⟨x24, hx24⟩ : ∃ x, a.eval (.tmp 24) = x := ⟨_, rfl⟩
    rw [hx24] at ha
    clear hx24
    obtain ⟨x25, hx25⟩ : ∃ x, a.eval (.tmp 25) = x := ⟨_, rfl⟩
    rw [hx25] at ha
    clear hx25
    obtain ⟨x26, hx26⟩ : ∃ x, a.eval (.tmp 26) = x := ⟨_, rfl⟩
    rw [hx26] at ha
    clear hx26
    obtain ⟨x27, hx27⟩ : ∃ x, a.eval (.tmp 27) = x := ⟨_, rfl⟩
    rw [hx27] at ha
    clear hx27
    obtain ⟨x28, hx28⟩ : ∃ x, a.eval (.tmp 28) = x := ⟨_, rfl⟩
    rw [hx28] at ha
    clear hx28
    obtain ⟨x29, hx29⟩ : ∃ x, a.eval (.tmp 29) = x := ⟨_, rfl⟩
    rw [hx29] at ha
    clear hx29
    obtain ⟨x30, hx30⟩ : ∃ x, a.eval (.tmp 30) = x := ⟨_, rfl⟩
    rw [hx30] at ha
    clear hx30
    obtain ⟨x31, hx31⟩ : ∃ x, a.eval (.tmp 31) = x := ⟨_, rfl⟩
    rw [hx31] at ha
    clear hx31
    obtain ⟨x32, hx32⟩ : ∃ x, a.eval (.tmp 32) = x := ⟨_, rfl⟩
    rw [hx32] at ha
    clear hx32
    obtain ⟨x33, hx33⟩ : ∃ x, a.eval (.tmp 33) = x := ⟨_, rfl⟩
    rw [hx33] at ha
    clear hx33
    obtain ⟨x34, hx34⟩ : ∃ x, a.eval (.tmp 34) = x := ⟨_, rfl⟩
    rw [hx34] at ha
    clear hx34
    obtain ⟨x35, hx35⟩ : ∃ x, a.eval (.tmp 35) = x := ⟨_, rfl⟩
    rw [hx35] at ha
    clear hx35
    obtain ⟨x36, hx36⟩ : ∃ x, a.eval (.tmp 36) = x := ⟨_, rfl⟩
    rw [hx36] at ha
    clear hx36
    obtain ⟨x37, hx37⟩ : ∃ x, a.eval (.tmp 37) = x := ⟨_, rfl⟩
    rw [hx37] at ha
    clear hx37
    obtain ⟨x38, hx38⟩ : ∃ x, a.eval (.tmp 38) = x := ⟨_, rfl⟩
    rw [hx38] at ha
    clear hx38
    obtain ⟨x39, hx39⟩ : ∃ x, a.eval (.tmp 39) = x := ⟨_, rfl⟩
    rw [hx39] at ha
    clear hx39
    obtain ⟨x40, hx40⟩ : ∃ x, a.eval (.tmp 40) = x := ⟨_, rfl⟩
    rw [hx40] at ha
    clear hx40
    obtain ⟨x41, hx41⟩ : ∃ x, a.eval (.tmp 41) = x := ⟨_, rfl⟩
    rw [hx41] at ha
    clear hx41
    obtain ⟨x42, hx42⟩ : ∃ x, a.eval (.tmp 42) = x := ⟨_, rfl⟩
    rw [hx42] at ha
    clear hx42
    obtain ⟨x43, hx43⟩ : ∃ x, a.eval (.tmp 43) = x := ⟨_, rfl⟩
    rw [hx43] at ha
    clear hx43
    obtain ⟨x44, hx44⟩ : ∃ x, a.eval (.tmp 44) = x := ⟨_, rfl⟩
    rw [hx44] at ha
    clear hx44
    obtain ⟨x45, hx45⟩ : ∃ x, a.eval (.tmp 45) = x := ⟨_, rfl⟩
    rw [hx45] at ha
    clear hx45
    obtain ⟨x46, hx46⟩ : ∃ x, a.eval (.tmp 46) = x := ⟨_, rfl⟩
    rw [hx46] at ha
    clear hx46
    obtain ⟨x47, hx47⟩ : ∃ x, a.eval (.tmp 47) = x := ⟨_, rfl⟩
    rw [hx47] at ha
    clear hx47
    obtain ⟨x48, hx48⟩ : ∃ x, a.eval (.tmp 48) = x := ⟨_, rfl⟩
    rw [hx48] at ha
    clear hx48
    obtain ⟨x49, hx49⟩ : ∃ x, a.eval (.tmp 49) = x := ⟨_, rfl⟩
    rw [hx49] at ha
    clear hx49
    obtain ⟨x50, hx50⟩ : ∃ x, a.eval (.tmp 50) = x := ⟨_, rfl⟩
    rw [hx50] at ha
    clear hx50
    obtain ⟨x51, hx51⟩ : ∃ x, a.eval (.tmp 51) = x := ⟨_, rfl⟩
    rw [hx51] at ha
    clear hx51
    obtain ⟨x52, hx52⟩ : ∃ x, a.eval (.tmp 52) = x := ⟨_, rfl⟩
    rw [hx52] at ha
    clear hx52
    obtain ⟨x53, hx53⟩ : ∃ x, a.eval (.tmp 53) = x := ⟨_, rfl⟩
    rw [hx53] at ha
    clear hx53
    obtain ⟨x54, hx54⟩ : ∃ x, a.eval (.tmp 54) = x := ⟨_, rfl⟩
    rw [hx54] at ha
    clear hx54
    obtain ⟨x55, hx55⟩ : ∃ x, a.eval (.tmp 55) = x := ⟨_, rfl⟩
    rw [hx55] at ha
    clear hx55
    obtain ⟨x56, hx56⟩ : ∃ x, a.eval (.tmp 56) = x := ⟨_, rfl⟩
    rw [hx56] at ha
    clear hx56
    obtain ⟨x57, hx57⟩ : ∃ x, a.eval (.tmp 57) = x := ⟨_, rfl⟩
    rw [hx57] at ha
    clear hx57
    obtain ⟨x58, hx58⟩ : ∃ x, a.eval (.tmp 58) = x := ⟨_, rfl⟩
    rw [hx58] at ha
    clear hx58
    obtain ⟨x59, hx59⟩ : ∃ x, a.eval (.tmp 59) = x := ⟨_, rfl⟩
    rw [hx59] at ha
    clear hx59
    obtain ⟨x60, hx60⟩ : ∃ x, a.eval (.tmp 60) = x := ⟨_, rfl⟩
    rw [hx60] at ha
    clear hx60
    obtain ⟨x61, hx61⟩ : ∃ x, a.eval (.tmp 61) = x := ⟨_, rfl⟩
    rw [hx61] at ha
    clear hx61
    obtain ⟨x62, hx62⟩ : ∃ x, a.eval (.tmp 62) = x := ⟨_, rfl⟩
    rw [hx62] at ha
    clear hx62
    obtain ⟨x63, hx63⟩ : ∃ x, a.eval (.tmp 63) = x := ⟨_, rfl⟩
    rw [hx63] at ha
    clear hx63
    obtain ⟨x64, hx64⟩ : ∃ x, a.eval (.tmp 64) = x := ⟨_, rfl⟩
    rw [hx64] at ha
    clear hx64
    obtain ⟨x65, hx65⟩ : ∃ x, a.eval (.tmp 65) = x := ⟨_, rfl⟩
    rw [hx65] at ha
    clear hx65
    clear hF hall hb hg8 e1 e3 e5 e6 e7 e8 e9 hB5 hC3 f1 f3 f5 f6 f7 hs hdf hW3 hW5 hW6 hBel
    dsimp only at ha
    subst ha
    clear a0 W0
    subst hg3
    obtain ⟨ft, hft⟩ : ∃ ft, findT c s what = ft := ⟨_, rfl⟩
    rw [hft] at hW8
    have HFT := Lib.hid hft
    rw [hft]
    clear hft
    have hc3 : W.cell? ⟨w.heap.size, 5, none⟩ = some (.int .u8 s) := by
      rw [← hsv]
      exact (blk_cell hW3' 5).trans rfl
    cases ft with
    | some r =>
      simp only [Option.isSome_some, Option.getD_some, rowC] at hW8 ⊢
      simp only [rowC, zeroR] at hW6'
      go_wp2_with (first | ((with_reducible refine gate_load 133 rfl ?_); refine wpList_load_row rfl 133 _ rfl _ rfl 133 _ _ _ (by exact hW8) Try.underlying133 rfl (by kernel_rfl) ?_) | ((with_reducible refine gate_storeT 133 rfl ?_); refine wpList_store_row rfl 133 _ _ rfl _ _ rfl rfl 133 _ hW6' (by kernel_rfl) rfl (by simp [Value.oneCell']) ?_))
      obtain ⟨r1, r2, r3, r4⟩ := r
      refine bodyPost_ret (res_cell_tmp rfl rfl (run_loadVar_box 133 _ 133 _ _ _ (setRow_heap W _ _ #[.int .u8 r1, .int .u64 r2, .bool r3, .int .u8 r4] _ _ hW6') Try.underlying133 rfl (by kernel_rfl))) rfl ⟨?_, below_setRow hBW (by omega) _⟩
      rw [← HFR.out]
      have hF := HFT.out
      subst hsv
      simp only [findR, findT] at hF ⊢
      rw [hF]
      rfl
    | none =>
      simp only [Option.isSome_none] 
      clear hW8
      simp only [rowC, zeroR] at hW6'
      have hX := Lib.hid hW6'
      have HE := Lib.hid (fun W => end_calls W)
      clear hW6'
      go_upto_region 6 with ((with_reducible refine gate_storeT 133 rfl ?_); refine wpList_store_row rfl 133 _ _ rfl _ _ rfl rfl 133 _ hX.out (by kernel_rfl) rfl (by simp [Value.oneCell']) ?_)
      all_goals first
        | (refine find_reg6 i _ w.heap.size (w.heap.size + 1 + 1) w (by omega) _ _ rfl rfl rfl rfl rfl _ rfl ⟨below_drew hBW, hW3', by omega, hX.out⟩ ?_; rintro a W2 L2 hV2 hall2 ⟨hb2, -, -, h6⟩; go_wp2; simp only [if_true, endR, rowC] at h6; refine bodyPost_ret (res_cell_tmp rfl ((hV2.keep 6 (by decide)).trans rfl) (run_loadVar_box 133 _ 133 _ _ _ h6 Try.underlying133 rfl (by kernel_rfl))) hV2.defers ⟨?_, hb2⟩; rw [eval_tmp', hV2.get 7 rfl (hall2 8 (by decide)), ← HFR.out]; have hF := HFT.out; subst hsv; simp only [findT] at hF; simp only [findR]; rw [hF]; simp only [idleI, encR, endR, beq_dec] at *; simp [*])
        | (refine find_reg8 i _ w.heap.size (w.heap.size + 1 + 1) w (by omega) _ _ rfl rfl rfl rfl rfl _ rfl ⟨below_drew hBW, hW3', by omega, hX.out⟩ ?_; rintro a W2 L2 hV2 hall2 ⟨hb2, -, -, h6⟩; go_wp2; simp only [if_true, endR, rowC] at h6; refine bodyPost_ret (res_cell_tmp rfl ((hV2.keep 6 (by decide)).trans rfl) (run_loadVar_box 133 _ 133 _ _ _ h6 Try.underlying133 rfl (by kernel_rfl))) hV2.defers ⟨?_, hb2⟩; rw [eval_tmp', hV2.get 7 rfl (hall2 8 (by decide)), ← HFR.out]; have hF := HFT.out; subst hsv; simp only [findT] at hF; simp only [findR]; rw [hF]; simp only [idleI, encR, endR, beq_dec] at *; simp [*])
        | (refine bodyPost_ret (res_cell_tmp rfl rfl (run_loadVar_box 133 _ 133 _ _ _ (setRow_heap W _ _ _ _ _ hX.out) Try.underlying133 rfl (by kernel_rfl))) rfl ⟨?_, below_setRow hBW (by omega) _⟩; rw [← HFR.out]; have hF := HFT.out; subst hsv; simp only [findT] at hF; simp only [findR]; rw [hF]; simp only [idleI, encR, beq_dec] at *; simp [*])
end Go.Proofs.Ytaoflcmjmhfblaa.I
