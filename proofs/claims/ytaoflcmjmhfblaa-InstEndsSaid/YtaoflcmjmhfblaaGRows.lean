/- inst.rows: the map of what becomes of what. -/
import Derived.Test.YtaoflcmjmhfblaaGKeyP
namespace Go.Proofs.Ytaoflcmjmhfblaa.I
open Go.RowKit Go.Proofs.YtaoflcmjmhfblaaW.PrintWords Go.Proofs.YtaoflcmjmhfblaaW.PrintLast Go.Proofs.YtaoflcmjmhfblaaW.PrintMore Go.Proofs.Ytaoflcmjmhfblaa.H Go.Shelf
set_option linter.unusedVariables false
set_option linter.unusedSimpArgs false
theorem deps {L : Nat → Bool} (o : Oper) (h : ∀ e ∈ o.after, Region.binds .any e = true → L e.on = true) (k : Nat) (hk : k ∈ (o.after.toList.filter (Region.binds .any)).map (·.on)) : L k = true := by
  obtain ⟨e, he, rfl⟩ := List.mem_map.1 hk
  obtain ⟨h1, h2⟩ := List.mem_filter.1 he
  exact h e (by simpa using h1) h2
theorem alloc_old (w : World) (o : Obj) {k : Nat} {x : Obj} (h : w.heap[k]? = some x) : (w.alloc o).heap[k]? = some x := by
  have hk : k < w.heap.size := (Array.getElem?_eq_some_iff.1 h).1
  exact (Below.heap_alloc w o k hk).trans h
theorem eval_tmp (a : Act) (k : Nat) : a.tmps.getD k undef = a.eval (.tmp k) := rfl
theorem drew_old (w : World) {k : Nat} {x : Obj} (h : w.heap[k]? = some x) : w.drew.heap[k]? = some x := h
theorem stp_skip {P : Program} {ops : Array Oper} {Q : Exit → Act → World → Prop} {K : Act → World → Prop} {o : Oper} {a : Act} {w w' : World} (hg : o.guard = none) (hrun : (execOp a.eval o).run P w = .ok .skip w') (h : K (a.put o.dst undef) w') : StepOk P ops o a w K Q := by
  refine ⟨fun _ => ?_, fun h2 => absurd h2 (by simp [Region.wanted, hg])⟩
  unfold Oper.wp
  rw [hrun]
  exact h
theorem gen_act2 {P : Program} {c : Code} {Q : Exit → Act → World → Prop} {a : Act} {w : World} (F : Act → World → Prop) (hF : F a w) (h : ∀ a0 w0, F a0 w0 → c.wp P Q a0 w0) : c.wp P Q a w := h a w hF
def hookR (c : CfV) : RowV := (2, c.hi, true, 0)
def goneR (c : CfV) : RowV := (5, c.ho, true, 0)
def drainR (c : CfV) : RowV := (4, c.dr, true, 0)
def tabT (c : CfV) : List (Nat × (Int × Int) × RowV) := [(4, (1, 1), upR c), (8, (9, 1), upR c), (13, (7, 1), (7, c.dl, true, 3)), (16, (7, 7), (8, 0, false, 0)), (19, (3, 2), drainR c), (22, (3, 9), drainR c), (25, (2, 4), hookR c), (28, (5, 4), goneR c), (31, (2, 5), (3, 0, false, 0)), (34, (2, 6), endR), (37, (5, 5), endR), (40, (5, 6), endR), (45, (8, 11), (9, c.dl, true, 4)), (49, (4, 8), leftR c)]
def valE (c : CfV) (g1 : Nat) : List (Nat × Nat × Value) := [(1, 16, encP (1, 1)), (2, 17, c.val), (3, 18, encR (upR c)), (5, 19, encP (9, 1)), (6, 20, c.val), (7, 21, encR (upR c)), (9, 22, encP (7, 1)), (10, 23, .pointer (some ⟨g1, 14, none⟩)), (11, 24, .int .u64 c.dl), (12, 25, encR (7, c.dl, true, 3)), (14, 26, encP (7, 7)), (15, 27, encR (8, 0, false, 0)), (17, 28, encP (3, 2)), (18, 29, encR (drainR c)), (20, 30, encP (3, 9)), (21, 31, encR (drainR c)), (23, 32, encP (2, 4)), (24, 33, encR (hookR c)), (26, 34, encP (5, 4)), (27, 35, encR (goneR c)), (29, 36, encP (2, 5)), (30, 37, encR (3, 0, false, 0)), (32, 38, encP (2, 6)), (33, 39, encR (endR)), (35, 40, encP (5, 5)), (36, 41, encR (endR)), (38, 42, encP (5, 6)), (39, 43, encR (endR)), (41, 44, encP (8, 11)), (42, 45, .pointer (some ⟨g1, 14, none⟩)), (43, 46, .int .u64 c.dl), (44, 47, encR (9, c.dl, true, 4)), (46, 48, encP (4, 8)), (47, 49, c.val), (48, 50, encR (leftR c))]
def ksE : List Nat := [16, 17, 18, 19, 20, 21, 22, 23, 24, 25, 26, 27, 28, 29, 30, 31, 32, 33, 34, 35, 36, 37, 38, 39, 40, 41, 42, 43, 44, 45, 46, 47, 48, 49, 50, 15, 51, 2]
theorem opsE (c : CfV) (g1 : Nat) : (valE c g1).map (·.1) = [1, 2, 3, 5, 6, 7, 9, 10, 11, 12, 14, 15, 17, 18, 20, 21, 23, 24, 26, 27, 29, 30, 32, 33, 35, 36, 38, 39, 41, 42, 43, 44, 46, 47, 48] := rfl
theorem slotsE (c : CfV) (g1 : Nat) : (valE c g1).map (·.2.1) = [16, 17, 18, 19, 20, 21, 22, 23, 24, 25, 26, 27, 28, 29, 30, 31, 32, 33, 34, 35, 36, 37, 38, 39, 40, 41, 42, 43, 44, 45, 46, 47, 48, 49, 50] := rfl
theorem opsT (c : CfV) : (tabT c).map (·.1) = [4, 8, 13, 16, 19, 22, 25, 28, 31, 34, 37, 40, 45, 49] := rfl
theorem keysT (c : CfV) : (tabT c).map (·.2.1) = [(1, 1), (9, 1), (7, 1), (7, 7), (3, 2), (3, 9), (2, 4), (5, 4), (2, 5), (2, 6), (5, 5), (5, 6), (8, 11), (4, 8)] := rfl
/-- What lies where the map's region begins. -/
structure RowsW (c : CfV) (g1 g3 g4 g5 : Nat) (W : World) : Prop where
  box : ∀ W', Below W.heap.size W W' → W'.heap[g1]? = some (.cells c.cells 41 (0, 0))
  cell : ∀ W', Below W.heap.size W W' → W'.cell? ⟨g1, 14, none⟩ = some (.int .u64 c.dl)
  row3 : ∀ W', Below W.heap.size W W' → W'.heap[g3]? = some (.cells #[.int .u8 2, .int .u64 c.hi, .bool true, .int .u8 0] 133 (0, 0))
  row4 : ∀ W', Below W.heap.size W W' → W'.heap[g4]? = some (.cells #[.int .u8 5, .int .u64 c.ho, .bool true, .int .u8 0] 133 (0, 0))
  row5 : ∀ W', Below W.heap.size W W' → W'.heap[g5]? = some (.cells #[.int .u8 4, .int .u64 c.dr, .bool true, .int .u8 0] 133 (0, 0))
theorem RowsW.of {c : CfV} {g1 g3 g4 g5 : Nat} {W : World} (h1 : W.heap[g1]? = some (.cells c.cells 41 (0, 0))) (h3 : W.heap[g3]? = some (.cells #[.int .u8 2, .int .u64 c.hi, .bool true, .int .u8 0] 133 (0, 0)))
    (h4 : W.heap[g4]? = some (.cells #[.int .u8 5, .int .u64 c.ho, .bool true, .int .u8 0] 133 (0, 0))) (h5 : W.heap[g5]? = some (.cells #[.int .u8 4, .int .u64 c.dr, .bool true, .int .u8 0] 133 (0, 0))) : RowsW c g1 g3 g4 g5 W where
  box W' hb := (hb.block g1 (Array.getElem?_eq_some_iff.1 h1).1).trans h1
  cell W' hb := by
    have h := (hb.block g1 (Array.getElem?_eq_some_iff.1 h1).1).trans h1
    exact (blk_cell h 14).trans rfl
  row3 W' hb := (hb.block g3 (Array.getElem?_eq_some_iff.1 h3).1).trans h3
  row4 W' hb := (hb.block g4 (Array.getElem?_eq_some_iff.1 h4).1).trans h4
  row5 W' hb := (hb.block g5 (Array.getElem?_eq_some_iff.1 h5).1).trans h5
def RowsA (g1 g3 g4 g5 : Nat) (a0 : Act) : Prop := a0.tmps.size = 52 ∧ a0.defers = [] ∧ a0.eval (.tmp 1) = .pointer (some ⟨g1, 0, none⟩) ∧ a0.eval (.tmp 3) = .pointer (some ⟨g3, 0, none⟩) ∧ a0.eval (.tmp 4) = .pointer (some ⟨g4, 0, none⟩) ∧ a0.eval (.tmp 5) = .pointer (some ⟨g5, 0, none⟩)
def RowsI (c : CfV) (g1 : Nat) (W0 : World) (a0 : Act) (L : Nat → Bool) (a : Act) (W : World) : Prop :=
  ∃ B l, VInv (valE c g1) ksE a0 L a ∧ MInv encP encR 15 [(50, 51), (51, 2)] (tabT c) W0 L a W B l
def RowsP (c : CfV) (w : World) (e : Ending) (w' : World) : Prop := ∃ B l, e = .returned (.map (some B)) ∧ w.heap.size ≤ B ∧ MapR encP encR w' B l ∧ (∀ b, lookL l b = tabL (fun _ => true) (tabT c) b) ∧ Below w.heap.size w w'
set_option maxHeartbeats 16000000 in
set_option maxRecDepth 100000 in
theorem rows_walk (c : CfV) (w : World) :
    Calls Try.prog 144 #[c.val] w fun e w' => RowsP c w e w' := by
  have HBel : Below w.heap.size w w := Below.refl _ _
  simp only [CfV.val, CfV.cells]
  go_enter Try.func144, Try.ntmps144
  go_upto_region 1 with fail
  go_region
  all_goals go_upto_region 3 with fail
  all_goals (first
    | refine gen_act2 (fun a0 W => RowsA w.heap.size (w.heap.size + 1) (w.heap.size + 1 + 1) (w.heap.size + 1 + 1 + 1) a0 ∧ RowsW c w.heap.size (w.heap.size + 1) (w.heap.size + 1 + 1) (w.heap.size + 1 + 1 + 1) W ∧ Below w.heap.size w W) ⟨⟨rfl, rfl, rfl, rfl, rfl, rfl⟩, RowsW.of ?_ ?_ ?_ ?_, ?_⟩ ?_
    | refine gen_act2 (fun a0 W => RowsA w.heap.size (w.heap.size + 1 + 1) (w.heap.size + 1) (w.heap.size + 1 + 1 + 1) a0 ∧ RowsW c w.heap.size (w.heap.size + 1 + 1) (w.heap.size + 1) (w.heap.size + 1 + 1 + 1) W ∧ Below w.heap.size w W) ⟨⟨rfl, rfl, rfl, rfl, rfl, rfl⟩, RowsW.of ?_ ?_ ?_ ?_, ?_⟩ ?_)
  all_goals first
    | (simp only [CfV.cells]; with_reducible refine drew_old _ ?_; with_reducible refine alloc_old _ _ ?_; with_reducible refine alloc_old _ _ ?_; with_reducible refine alloc_old _ _ ?_; exact heap_alloc_new _ _)
    | (with_reducible refine drew_old _ ?_; with_reducible refine alloc_old _ _ ?_; with_reducible refine alloc_old _ _ ?_; with_reducible refine alloc_old _ _ ?_; exact newest _ _ _ (by first | (simp; done) | simp [World.drew]))
    | (with_reducible refine drew_old _ ?_; with_reducible refine alloc_old _ _ ?_; with_reducible refine alloc_old _ _ ?_; exact newest _ _ _ (by first | (simp; done) | simp [World.drew]))
    | (with_reducible refine drew_old _ ?_; with_reducible refine alloc_old _ _ ?_; exact newest _ _ _ (by first | (simp; done) | simp [World.drew]))
    | (with_reducible refine drew_old _ ?_; exact newest _ _ _ (by first | (simp; done) | simp [World.drew]))
    | (with_reducible refine below_drew ?_; with_reducible refine below_alloc ?_ _; with_reducible refine below_alloc ?_ _; with_reducible refine below_alloc ?_ _; with_reducible refine below_alloc ?_ _; exact HBel)
    | skip
  all_goals
    rintro a0 W0 ⟨⟨hs, hdf, f1, f3, f4, f5⟩, hB1, hBel⟩
    obtain ⟨g1, hg1⟩ : ∃ g1, w.heap.size = g1 := ⟨_, rfl⟩
    rw [hg1] at f1 f3 f4 f5 hB1
    refine wp_region_inv_at (by kernel_rfl) (RowsI c g1 W0) (by kernel_rfl) ?_ ?_ ?_
    · exact ⟨0, [], VInv.start _ _ _, MInv.start (below_drew (Below.refl _ _))⟩
    · intro L i o a W K hI ho hL hdep0 hK
      obtain ⟨B, l, hV, hM⟩ := hI
      have e1 := (hV.keep 1 (by decide)).trans f1
      have e3 := (hV.keep 3 (by decide)).trans f3
      have e4 := (hV.keep 4 (by decide)).trans f4
      have e5 := (hV.keep 5 (by decide)).trans f5
      have oE := opsE c g1
      have sE' := slotsE c g1
      have oT := opsT c
      have nE : ((valE c g1).map (·.1)).Nodup := by rw [oE]; decide
      have sE : ((valE c g1).map (·.2.1)).Nodup := by rw [sE']; decide
      have nT : ((tabT c).map (·.1)).Nodup := by rw [oT]; decide
      have kT : ((tabT c).map (·.2.1)).Nodup := by rw [keysT]; decide
      have hdep := deps o hdep0
      clear hdep0
      match i, ho with
      | 0, ho =>
        simp only [List.getElem?_toArray, List.getElem?_cons_zero, List.getElem?_cons_succ, Option.some.injEq] at ho
        subst ho
        refine stp (v := .map (some W.heap.size)) (w' := W.alloc (.map #[] 0)) rfl rfl ?_
        exact hK _ _ ⟨W.heap.size, [], hV.other (by rw [oE]; decide) (by rw [sE']; decide) (by decide), hM.make hL (by rw [oT]; decide) (by decide) (by rw [hV.size, hs]; decide)⟩
      | 1, ho =>
        simp only [List.getElem?_toArray, List.getElem?_cons_zero, List.getElem?_cons_succ, Option.some.injEq] at ho
        subst ho
        refine stp1 (v := encP (1, 1)) (w' := W) (.tmp 1) _ rfl e1 (fun ρ hc hρ => by clear hV hM hK; first | (go_simp; done) | (go_simp; rfl)) ?_
        exact hK _ _ ⟨B, l, hV.put nE sE 0 rfl (by decide) (by rw [hs]; decide), hM.val (by rw [oT]; decide) (by decide) (Below.refl _ _)⟩
      | 2, ho =>
        simp only [List.getElem?_toArray, List.getElem?_cons_zero, List.getElem?_cons_succ, Option.some.injEq] at ho
        subst ho
        refine stp_load rfl rfl e1 (hB1.box W hM.below) Try.underlying41 rfl (by kernel_rfl) ?_
        exact hK _ _ ⟨B, l, hV.put nE sE 1 rfl (by decide) (by rw [hs]; decide), hM.val (by rw [oT]; decide) (by decide) (Below.refl _ _)⟩
      | 3, ho =>
        simp only [List.getElem?_toArray, List.getElem?_cons_zero, List.getElem?_cons_succ, Option.some.injEq] at ho
        subst ho
        have E17 := hV.get 1 rfl (hdep 2 (by decide))
        refine stp_call rfl Try.func165 (by kernel_rfl) rfl rfl (args := #[c.val]) (by simp only [List.map_toArray, List.map_cons, List.map_nil, E17]) ?_
        refine (up_calls c W).mono ?_
        rintro e w2 ⟨rfl, hb2⟩
        exact ⟨_, rfl, hK _ _ ⟨B, l, hV.put nE sE 2 rfl (by decide) (by rw [hs]; decide), hM.val (by rw [oT]; decide) (by decide) hb2⟩⟩
      | 4, ho =>
        simp only [List.getElem?_toArray, List.getElem?_cons_zero, List.getElem?_cons_succ, Option.some.injEq] at ho
        subst ho
        have h0 := hdep 0 (by decide)
        obtain ⟨w2, hr, hM2⟩ := hM.row keyPair Try.underlying197 nT kT 0 rfl (by decide) h0
        have EM := (hM.own h0).1
        have EK := hV.get 0 rfl (hdep 1 (by decide))
        have EV := hV.get 2 rfl (hdep 3 (by decide))
        refine stp_skip (w' := w2) rfl (by simp only [execOp, EM, EK, EV, Sem.run_bind, Sem.run_pure, hr, Result.andThen_ok]) ?_
        exact hK _ _ ⟨B, _, hV.skip (by rw [oE]; decide), hM2⟩
      | 5, ho =>
        simp only [List.getElem?_toArray, List.getElem?_cons_zero, List.getElem?_cons_succ, Option.some.injEq] at ho
        subst ho
        refine stp1 (v := encP (9, 1)) (w' := W) (.tmp 1) _ rfl e1 (fun ρ hc hρ => by clear hV hM hK; first | (go_simp; done) | (go_simp; rfl)) ?_
        exact hK _ _ ⟨B, l, hV.put nE sE 3 rfl (by decide) (by rw [hs]; decide), hM.val (by rw [oT]; decide) (by decide) (Below.refl _ _)⟩
      | 6, ho =>
        simp only [List.getElem?_toArray, List.getElem?_cons_zero, List.getElem?_cons_succ, Option.some.injEq] at ho
        subst ho
        refine stp_load rfl rfl e1 (hB1.box W hM.below) Try.underlying41 rfl (by kernel_rfl) ?_
        exact hK _ _ ⟨B, l, hV.put nE sE 4 rfl (by decide) (by rw [hs]; decide), hM.val (by rw [oT]; decide) (by decide) (Below.refl _ _)⟩
      | 7, ho =>
        simp only [List.getElem?_toArray, List.getElem?_cons_zero, List.getElem?_cons_succ, Option.some.injEq] at ho
        subst ho
        have E20 := hV.get 4 rfl (hdep 6 (by decide))
        refine stp_call rfl Try.func165 (by kernel_rfl) rfl rfl (args := #[c.val]) (by simp only [List.map_toArray, List.map_cons, List.map_nil, E20]) ?_
        refine (up_calls c W).mono ?_
        rintro e w2 ⟨rfl, hb2⟩
        exact ⟨_, rfl, hK _ _ ⟨B, l, hV.put nE sE 5 rfl (by decide) (by rw [hs]; decide), hM.val (by rw [oT]; decide) (by decide) hb2⟩⟩
      | 8, ho =>
        simp only [List.getElem?_toArray, List.getElem?_cons_zero, List.getElem?_cons_succ, Option.some.injEq] at ho
        subst ho
        have h0 := hdep 0 (by decide)
        obtain ⟨w2, hr, hM2⟩ := hM.row keyPair Try.underlying197 nT kT 1 rfl (by decide) h0
        have EM := (hM.own h0).1
        have EK := hV.get 3 rfl (hdep 5 (by decide))
        have EV := hV.get 5 rfl (hdep 7 (by decide))
        refine stp_skip (w' := w2) rfl (by simp only [execOp, EM, EK, EV, Sem.run_bind, Sem.run_pure, hr, Result.andThen_ok]) ?_
        exact hK _ _ ⟨B, _, hV.skip (by rw [oE]; decide), hM2⟩
      | 9, ho =>
        simp only [List.getElem?_toArray, List.getElem?_cons_zero, List.getElem?_cons_succ, Option.some.injEq] at ho
        subst ho
        refine stp1 (v := encP (7, 1)) (w' := W) (.tmp 1) _ rfl e1 (fun ρ hc hρ => by clear hV hM hK; first | (go_simp; done) | (go_simp; rfl)) ?_
        exact hK _ _ ⟨B, l, hV.put nE sE 6 rfl (by decide) (by rw [hs]; decide), hM.val (by rw [oT]; decide) (by decide) (Below.refl _ _)⟩
      | 10, ho =>
        simp only [List.getElem?_toArray, List.getElem?_cons_zero, List.getElem?_cons_succ, Option.some.injEq] at ho
        subst ho
        refine stp1 (v := .pointer (some ⟨g1, 14, none⟩)) (w' := W) (.tmp 1) _ rfl e1 (fun ρ hc hρ => by clear hV hM hK; first | (go_simp; done) | (go_simp; rfl)) ?_
        exact hK _ _ ⟨B, l, hV.put nE sE 7 rfl (by decide) (by rw [hs]; decide), hM.val (by rw [oT]; decide) (by decide) (Below.refl _ _)⟩
      | 11, ho =>
        simp only [List.getElem?_toArray, List.getElem?_cons_zero, List.getElem?_cons_succ, Option.some.injEq] at ho
        subst ho
        have E23 := hV.get 7 rfl (hdep 10 (by decide))
        have hc1 := hB1.cell W hM.below
        refine stp1 (v := .int .u64 c.dl) (w' := W) (.tmp 23) _ rfl E23 (fun ρ hc hρ => by clear hV hM hK; first | (go_simp; done) | (go_simp; rfl)) ?_
        exact hK _ _ ⟨B, l, hV.put nE sE 8 rfl (by decide) (by rw [hs]; decide), hM.val (by rw [oT]; decide) (by decide) (Below.refl _ _)⟩
      | 12, ho =>
        simp only [List.getElem?_toArray, List.getElem?_cons_zero, List.getElem?_cons_succ, Option.some.injEq] at ho
        subst ho
        have E24 := hV.get 8 rfl (hdep 11 (by decide))
        refine stp1 (v := encR (7, c.dl, true, 3)) (w' := W) (.tmp 24) _ rfl E24 (fun ρ hc hρ => by clear hV hM hK; first | (go_simp; done) | (go_simp; rfl)) ?_
        exact hK _ _ ⟨B, l, hV.put nE sE 9 rfl (by decide) (by rw [hs]; decide), hM.val (by rw [oT]; decide) (by decide) (Below.refl _ _)⟩
      | 13, ho =>
        simp only [List.getElem?_toArray, List.getElem?_cons_zero, List.getElem?_cons_succ, Option.some.injEq] at ho
        subst ho
        have h0 := hdep 0 (by decide)
        obtain ⟨w2, hr, hM2⟩ := hM.row keyPair Try.underlying197 nT kT 2 rfl (by decide) h0
        have EM := (hM.own h0).1
        have EK := hV.get 6 rfl (hdep 9 (by decide))
        have EV := hV.get 9 rfl (hdep 12 (by decide))
        refine stp_skip (w' := w2) rfl (by simp only [execOp, EM, EK, EV, Sem.run_bind, Sem.run_pure, hr, Result.andThen_ok]) ?_
        exact hK _ _ ⟨B, _, hV.skip (by rw [oE]; decide), hM2⟩
      | 14, ho =>
        simp only [List.getElem?_toArray, List.getElem?_cons_zero, List.getElem?_cons_succ, Option.some.injEq] at ho
        subst ho
        refine stp1 (v := encP (7, 7)) (w' := W) (.tmp 1) _ rfl e1 (fun ρ hc hρ => by clear hV hM hK; first | (go_simp; done) | (go_simp; rfl)) ?_
        exact hK _ _ ⟨B, l, hV.put nE sE 10 rfl (by decide) (by rw [hs]; decide), hM.val (by rw [oT]; decide) (by decide) (Below.refl _ _)⟩
      | 15, ho =>
        simp only [List.getElem?_toArray, List.getElem?_cons_zero, List.getElem?_cons_succ, Option.some.injEq] at ho
        subst ho
        refine stp1 (v := encR (8, 0, false, 0)) (w' := W) (.tmp 1) _ rfl e1 (fun ρ hc hρ => by clear hV hM hK; first | (go_simp; done) | (go_simp; rfl)) ?_
        exact hK _ _ ⟨B, l, hV.put nE sE 11 rfl (by decide) (by rw [hs]; decide), hM.val (by rw [oT]; decide) (by decide) (Below.refl _ _)⟩
      | 16, ho =>
        simp only [List.getElem?_toArray, List.getElem?_cons_zero, List.getElem?_cons_succ, Option.some.injEq] at ho
        subst ho
        have h0 := hdep 0 (by decide)
        obtain ⟨w2, hr, hM2⟩ := hM.row keyPair Try.underlying197 nT kT 3 rfl (by decide) h0
        have EM := (hM.own h0).1
        have EK := hV.get 10 rfl (hdep 14 (by decide))
        have EV := hV.get 11 rfl (hdep 15 (by decide))
        refine stp_skip (w' := w2) rfl (by simp only [execOp, EM, EK, EV, Sem.run_bind, Sem.run_pure, hr, Result.andThen_ok]) ?_
        exact hK _ _ ⟨B, _, hV.skip (by rw [oE]; decide), hM2⟩
      | 17, ho =>
        simp only [List.getElem?_toArray, List.getElem?_cons_zero, List.getElem?_cons_succ, Option.some.injEq] at ho
        subst ho
        refine stp1 (v := encP (3, 2)) (w' := W) (.tmp 1) _ rfl e1 (fun ρ hc hρ => by clear hV hM hK; first | (go_simp; done) | (go_simp; rfl)) ?_
        exact hK _ _ ⟨B, l, hV.put nE sE 12 rfl (by decide) (by rw [hs]; decide), hM.val (by rw [oT]; decide) (by decide) (Below.refl _ _)⟩
      | 18, ho =>
        simp only [List.getElem?_toArray, List.getElem?_cons_zero, List.getElem?_cons_succ, Option.some.injEq] at ho
        subst ho
        refine stp_load rfl rfl e5 (hB1.row5 W hM.below) Try.underlying133 rfl (by kernel_rfl) ?_
        exact hK _ _ ⟨B, l, hV.put nE sE 13 rfl (by decide) (by rw [hs]; decide), hM.val (by rw [oT]; decide) (by decide) (Below.refl _ _)⟩
      | 19, ho =>
        simp only [List.getElem?_toArray, List.getElem?_cons_zero, List.getElem?_cons_succ, Option.some.injEq] at ho
        subst ho
        have h0 := hdep 0 (by decide)
        obtain ⟨w2, hr, hM2⟩ := hM.row keyPair Try.underlying197 nT kT 4 rfl (by decide) h0
        have EM := (hM.own h0).1
        have EK := hV.get 12 rfl (hdep 17 (by decide))
        have EV := hV.get 13 rfl (hdep 18 (by decide))
        refine stp_skip (w' := w2) rfl (by simp only [execOp, EM, EK, EV, Sem.run_bind, Sem.run_pure, hr, Result.andThen_ok]) ?_
        exact hK _ _ ⟨B, _, hV.skip (by rw [oE]; decide), hM2⟩
      | 20, ho =>
        simp only [List.getElem?_toArray, List.getElem?_cons_zero, List.getElem?_cons_succ, Option.some.injEq] at ho
        subst ho
        refine stp1 (v := encP (3, 9)) (w' := W) (.tmp 1) _ rfl e1 (fun ρ hc hρ => by clear hV hM hK; first | (go_simp; done) | (go_simp; rfl)) ?_
        exact hK _ _ ⟨B, l, hV.put nE sE 14 rfl (by decide) (by rw [hs]; decide), hM.val (by rw [oT]; decide) (by decide) (Below.refl _ _)⟩
      | 21, ho =>
        simp only [List.getElem?_toArray, List.getElem?_cons_zero, List.getElem?_cons_succ, Option.some.injEq] at ho
        subst ho
        refine stp_load rfl rfl e5 (hB1.row5 W hM.below) Try.underlying133 rfl (by kernel_rfl) ?_
        exact hK _ _ ⟨B, l, hV.put nE sE 15 rfl (by decide) (by rw [hs]; decide), hM.val (by rw [oT]; decide) (by decide) (Below.refl _ _)⟩
      | 22, ho =>
        simp only [List.getElem?_toArray, List.getElem?_cons_zero, List.getElem?_cons_succ, Option.some.injEq] at ho
        subst ho
        have h0 := hdep 0 (by decide)
        obtain ⟨w2, hr, hM2⟩ := hM.row keyPair Try.underlying197 nT kT 5 rfl (by decide) h0
        have EM := (hM.own h0).1
        have EK := hV.get 14 rfl (hdep 20 (by decide))
        have EV := hV.get 15 rfl (hdep 21 (by decide))
        refine stp_skip (w' := w2) rfl (by simp only [execOp, EM, EK, EV, Sem.run_bind, Sem.run_pure, hr, Result.andThen_ok]) ?_
        exact hK _ _ ⟨B, _, hV.skip (by rw [oE]; decide), hM2⟩
      | 23, ho =>
        simp only [List.getElem?_toArray, List.getElem?_cons_zero, List.getElem?_cons_succ, Option.some.injEq] at ho
        subst ho
        refine stp1 (v := encP (2, 4)) (w' := W) (.tmp 1) _ rfl e1 (fun ρ hc hρ => by clear hV hM hK; first | (go_simp; done) | (go_simp; rfl)) ?_
        exact hK _ _ ⟨B, l, hV.put nE sE 16 rfl (by decide) (by rw [hs]; decide), hM.val (by rw [oT]; decide) (by decide) (Below.refl _ _)⟩
      | 24, ho =>
        simp only [List.getElem?_toArray, List.getElem?_cons_zero, List.getElem?_cons_succ, Option.some.injEq] at ho
        subst ho
        refine stp_load rfl rfl e3 (hB1.row3 W hM.below) Try.underlying133 rfl (by kernel_rfl) ?_
        exact hK _ _ ⟨B, l, hV.put nE sE 17 rfl (by decide) (by rw [hs]; decide), hM.val (by rw [oT]; decide) (by decide) (Below.refl _ _)⟩
      | 25, ho =>
        simp only [List.getElem?_toArray, List.getElem?_cons_zero, List.getElem?_cons_succ, Option.some.injEq] at ho
        subst ho
        have h0 := hdep 0 (by decide)
        obtain ⟨w2, hr, hM2⟩ := hM.row keyPair Try.underlying197 nT kT 6 rfl (by decide) h0
        have EM := (hM.own h0).1
        have EK := hV.get 16 rfl (hdep 23 (by decide))
        have EV := hV.get 17 rfl (hdep 24 (by decide))
        refine stp_skip (w' := w2) rfl (by simp only [execOp, EM, EK, EV, Sem.run_bind, Sem.run_pure, hr, Result.andThen_ok]) ?_
        exact hK _ _ ⟨B, _, hV.skip (by rw [oE]; decide), hM2⟩
      | 26, ho =>
        simp only [List.getElem?_toArray, List.getElem?_cons_zero, List.getElem?_cons_succ, Option.some.injEq] at ho
        subst ho
        refine stp1 (v := encP (5, 4)) (w' := W) (.tmp 1) _ rfl e1 (fun ρ hc hρ => by clear hV hM hK; first | (go_simp; done) | (go_simp; rfl)) ?_
        exact hK _ _ ⟨B, l, hV.put nE sE 18 rfl (by decide) (by rw [hs]; decide), hM.val (by rw [oT]; decide) (by decide) (Below.refl _ _)⟩
      | 27, ho =>
        simp only [List.getElem?_toArray, List.getElem?_cons_zero, List.getElem?_cons_succ, Option.some.injEq] at ho
        subst ho
        refine stp_load rfl rfl e4 (hB1.row4 W hM.below) Try.underlying133 rfl (by kernel_rfl) ?_
        exact hK _ _ ⟨B, l, hV.put nE sE 19 rfl (by decide) (by rw [hs]; decide), hM.val (by rw [oT]; decide) (by decide) (Below.refl _ _)⟩
      | 28, ho =>
        simp only [List.getElem?_toArray, List.getElem?_cons_zero, List.getElem?_cons_succ, Option.some.injEq] at ho
        subst ho
        have h0 := hdep 0 (by decide)
        obtain ⟨w2, hr, hM2⟩ := hM.row keyPair Try.underlying197 nT kT 7 rfl (by decide) h0
        have EM := (hM.own h0).1
        have EK := hV.get 18 rfl (hdep 26 (by decide))
        have EV := hV.get 19 rfl (hdep 27 (by decide))
        refine stp_skip (w' := w2) rfl (by simp only [execOp, EM, EK, EV, Sem.run_bind, Sem.run_pure, hr, Result.andThen_ok]) ?_
        exact hK _ _ ⟨B, _, hV.skip (by rw [oE]; decide), hM2⟩
      | 29, ho =>
        simp only [List.getElem?_toArray, List.getElem?_cons_zero, List.getElem?_cons_succ, Option.some.injEq] at ho
        subst ho
        refine stp1 (v := encP (2, 5)) (w' := W) (.tmp 1) _ rfl e1 (fun ρ hc hρ => by clear hV hM hK; first | (go_simp; done) | (go_simp; rfl)) ?_
        exact hK _ _ ⟨B, l, hV.put nE sE 20 rfl (by decide) (by rw [hs]; decide), hM.val (by rw [oT]; decide) (by decide) (Below.refl _ _)⟩
      | 30, ho =>
        simp only [List.getElem?_toArray, List.getElem?_cons_zero, List.getElem?_cons_succ, Option.some.injEq] at ho
        subst ho
        refine stp1 (v := encR (3, 0, false, 0)) (w' := W) (.tmp 1) _ rfl e1 (fun ρ hc hρ => by clear hV hM hK; first | (go_simp; done) | (go_simp; rfl)) ?_
        exact hK _ _ ⟨B, l, hV.put nE sE 21 rfl (by decide) (by rw [hs]; decide), hM.val (by rw [oT]; decide) (by decide) (Below.refl _ _)⟩
      | 31, ho =>
        simp only [List.getElem?_toArray, List.getElem?_cons_zero, List.getElem?_cons_succ, Option.some.injEq] at ho
        subst ho
        have h0 := hdep 0 (by decide)
        obtain ⟨w2, hr, hM2⟩ := hM.row keyPair Try.underlying197 nT kT 8 rfl (by decide) h0
        have EM := (hM.own h0).1
        have EK := hV.get 20 rfl (hdep 29 (by decide))
        have EV := hV.get 21 rfl (hdep 30 (by decide))
        refine stp_skip (w' := w2) rfl (by simp only [execOp, EM, EK, EV, Sem.run_bind, Sem.run_pure, hr, Result.andThen_ok]) ?_
        exact hK _ _ ⟨B, _, hV.skip (by rw [oE]; decide), hM2⟩
      | 32, ho =>
        simp only [List.getElem?_toArray, List.getElem?_cons_zero, List.getElem?_cons_succ, Option.some.injEq] at ho
        subst ho
        refine stp1 (v := encP (2, 6)) (w' := W) (.tmp 1) _ rfl e1 (fun ρ hc hρ => by clear hV hM hK; first | (go_simp; done) | (go_simp; rfl)) ?_
        exact hK _ _ ⟨B, l, hV.put nE sE 22 rfl (by decide) (by rw [hs]; decide), hM.val (by rw [oT]; decide) (by decide) (Below.refl _ _)⟩
      | 33, ho =>
        simp only [List.getElem?_toArray, List.getElem?_cons_zero, List.getElem?_cons_succ, Option.some.injEq] at ho
        subst ho
        refine stp_call rfl Try.func145 (by kernel_rfl) rfl rfl (args := #[]) (by simp) ?_
        refine (end_calls W).mono ?_
        rintro e w2 ⟨rfl, hb2⟩
        exact ⟨_, rfl, hK _ _ ⟨B, l, hV.put nE sE 23 rfl (by decide) (by rw [hs]; decide), hM.val (by rw [oT]; decide) (by decide) hb2⟩⟩
      | 34, ho =>
        simp only [List.getElem?_toArray, List.getElem?_cons_zero, List.getElem?_cons_succ, Option.some.injEq] at ho
        subst ho
        have h0 := hdep 0 (by decide)
        obtain ⟨w2, hr, hM2⟩ := hM.row keyPair Try.underlying197 nT kT 9 rfl (by decide) h0
        have EM := (hM.own h0).1
        have EK := hV.get 22 rfl (hdep 32 (by decide))
        have EV := hV.get 23 rfl (hdep 33 (by decide))
        refine stp_skip (w' := w2) rfl (by simp only [execOp, EM, EK, EV, Sem.run_bind, Sem.run_pure, hr, Result.andThen_ok]) ?_
        exact hK _ _ ⟨B, _, hV.skip (by rw [oE]; decide), hM2⟩
      | 35, ho =>
        simp only [List.getElem?_toArray, List.getElem?_cons_zero, List.getElem?_cons_succ, Option.some.injEq] at ho
        subst ho
        refine stp1 (v := encP (5, 5)) (w' := W) (.tmp 1) _ rfl e1 (fun ρ hc hρ => by clear hV hM hK; first | (go_simp; done) | (go_simp; rfl)) ?_
        exact hK _ _ ⟨B, l, hV.put nE sE 24 rfl (by decide) (by rw [hs]; decide), hM.val (by rw [oT]; decide) (by decide) (Below.refl _ _)⟩
      | 36, ho =>
        simp only [List.getElem?_toArray, List.getElem?_cons_zero, List.getElem?_cons_succ, Option.some.injEq] at ho
        subst ho
        refine stp_call rfl Try.func145 (by kernel_rfl) rfl rfl (args := #[]) (by simp) ?_
        refine (end_calls W).mono ?_
        rintro e w2 ⟨rfl, hb2⟩
        exact ⟨_, rfl, hK _ _ ⟨B, l, hV.put nE sE 25 rfl (by decide) (by rw [hs]; decide), hM.val (by rw [oT]; decide) (by decide) hb2⟩⟩
      | 37, ho =>
        simp only [List.getElem?_toArray, List.getElem?_cons_zero, List.getElem?_cons_succ, Option.some.injEq] at ho
        subst ho
        have h0 := hdep 0 (by decide)
        obtain ⟨w2, hr, hM2⟩ := hM.row keyPair Try.underlying197 nT kT 10 rfl (by decide) h0
        have EM := (hM.own h0).1
        have EK := hV.get 24 rfl (hdep 35 (by decide))
        have EV := hV.get 25 rfl (hdep 36 (by decide))
        refine stp_skip (w' := w2) rfl (by simp only [execOp, EM, EK, EV, Sem.run_bind, Sem.run_pure, hr, Result.andThen_ok]) ?_
        exact hK _ _ ⟨B, _, hV.skip (by rw [oE]; decide), hM2⟩
      | 38, ho =>
        simp only [List.getElem?_toArray, List.getElem?_cons_zero, List.getElem?_cons_succ, Option.some.injEq] at ho
        subst ho
        refine stp1 (v := encP (5, 6)) (w' := W) (.tmp 1) _ rfl e1 (fun ρ hc hρ => by clear hV hM hK; first | (go_simp; done) | (go_simp; rfl)) ?_
        exact hK _ _ ⟨B, l, hV.put nE sE 26 rfl (by decide) (by rw [hs]; decide), hM.val (by rw [oT]; decide) (by decide) (Below.refl _ _)⟩
      | 39, ho =>
        simp only [List.getElem?_toArray, List.getElem?_cons_zero, List.getElem?_cons_succ, Option.some.injEq] at ho
        subst ho
        refine stp_call rfl Try.func145 (by kernel_rfl) rfl rfl (args := #[]) (by simp) ?_
        refine (end_calls W).mono ?_
        rintro e w2 ⟨rfl, hb2⟩
        exact ⟨_, rfl, hK _ _ ⟨B, l, hV.put nE sE 27 rfl (by decide) (by rw [hs]; decide), hM.val (by rw [oT]; decide) (by decide) hb2⟩⟩
      | 40, ho =>
        simp only [List.getElem?_toArray, List.getElem?_cons_zero, List.getElem?_cons_succ, Option.some.injEq] at ho
        subst ho
        have h0 := hdep 0 (by decide)
        obtain ⟨w2, hr, hM2⟩ := hM.row keyPair Try.underlying197 nT kT 11 rfl (by decide) h0
        have EM := (hM.own h0).1
        have EK := hV.get 26 rfl (hdep 38 (by decide))
        have EV := hV.get 27 rfl (hdep 39 (by decide))
        refine stp_skip (w' := w2) rfl (by simp only [execOp, EM, EK, EV, Sem.run_bind, Sem.run_pure, hr, Result.andThen_ok]) ?_
        exact hK _ _ ⟨B, _, hV.skip (by rw [oE]; decide), hM2⟩
      | 41, ho =>
        simp only [List.getElem?_toArray, List.getElem?_cons_zero, List.getElem?_cons_succ, Option.some.injEq] at ho
        subst ho
        refine stp1 (v := encP (8, 11)) (w' := W) (.tmp 1) _ rfl e1 (fun ρ hc hρ => by clear hV hM hK; first | (go_simp; done) | (go_simp; rfl)) ?_
        exact hK _ _ ⟨B, l, hV.put nE sE 28 rfl (by decide) (by rw [hs]; decide), hM.val (by rw [oT]; decide) (by decide) (Below.refl _ _)⟩
      | 42, ho =>
        simp only [List.getElem?_toArray, List.getElem?_cons_zero, List.getElem?_cons_succ, Option.some.injEq] at ho
        subst ho
        refine stp1 (v := .pointer (some ⟨g1, 14, none⟩)) (w' := W) (.tmp 1) _ rfl e1 (fun ρ hc hρ => by clear hV hM hK; first | (go_simp; done) | (go_simp; rfl)) ?_
        exact hK _ _ ⟨B, l, hV.put nE sE 29 rfl (by decide) (by rw [hs]; decide), hM.val (by rw [oT]; decide) (by decide) (Below.refl _ _)⟩
      | 43, ho =>
        simp only [List.getElem?_toArray, List.getElem?_cons_zero, List.getElem?_cons_succ, Option.some.injEq] at ho
        subst ho
        have E45 := hV.get 29 rfl (hdep 42 (by decide))
        have hc1 := hB1.cell W hM.below
        refine stp1 (v := .int .u64 c.dl) (w' := W) (.tmp 45) _ rfl E45 (fun ρ hc hρ => by clear hV hM hK; first | (go_simp; done) | (go_simp; rfl)) ?_
        exact hK _ _ ⟨B, l, hV.put nE sE 30 rfl (by decide) (by rw [hs]; decide), hM.val (by rw [oT]; decide) (by decide) (Below.refl _ _)⟩
      | 44, ho =>
        simp only [List.getElem?_toArray, List.getElem?_cons_zero, List.getElem?_cons_succ, Option.some.injEq] at ho
        subst ho
        have E46 := hV.get 30 rfl (hdep 43 (by decide))
        refine stp1 (v := encR (9, c.dl, true, 4)) (w' := W) (.tmp 46) _ rfl E46 (fun ρ hc hρ => by clear hV hM hK; first | (go_simp; done) | (go_simp; rfl)) ?_
        exact hK _ _ ⟨B, l, hV.put nE sE 31 rfl (by decide) (by rw [hs]; decide), hM.val (by rw [oT]; decide) (by decide) (Below.refl _ _)⟩
      | 45, ho =>
        simp only [List.getElem?_toArray, List.getElem?_cons_zero, List.getElem?_cons_succ, Option.some.injEq] at ho
        subst ho
        have h0 := hdep 0 (by decide)
        obtain ⟨w2, hr, hM2⟩ := hM.row keyPair Try.underlying197 nT kT 12 rfl (by decide) h0
        have EM := (hM.own h0).1
        have EK := hV.get 28 rfl (hdep 41 (by decide))
        have EV := hV.get 31 rfl (hdep 44 (by decide))
        refine stp_skip (w' := w2) rfl (by simp only [execOp, EM, EK, EV, Sem.run_bind, Sem.run_pure, hr, Result.andThen_ok]) ?_
        exact hK _ _ ⟨B, _, hV.skip (by rw [oE]; decide), hM2⟩
      | 46, ho =>
        simp only [List.getElem?_toArray, List.getElem?_cons_zero, List.getElem?_cons_succ, Option.some.injEq] at ho
        subst ho
        refine stp1 (v := encP (4, 8)) (w' := W) (.tmp 1) _ rfl e1 (fun ρ hc hρ => by clear hV hM hK; first | (go_simp; done) | (go_simp; rfl)) ?_
        exact hK _ _ ⟨B, l, hV.put nE sE 32 rfl (by decide) (by rw [hs]; decide), hM.val (by rw [oT]; decide) (by decide) (Below.refl _ _)⟩
      | 47, ho =>
        simp only [List.getElem?_toArray, List.getElem?_cons_zero, List.getElem?_cons_succ, Option.some.injEq] at ho
        subst ho
        refine stp_load rfl rfl e1 (hB1.box W hM.below) Try.underlying41 rfl (by kernel_rfl) ?_
        exact hK _ _ ⟨B, l, hV.put nE sE 33 rfl (by decide) (by rw [hs]; decide), hM.val (by rw [oT]; decide) (by decide) (Below.refl _ _)⟩
      | 48, ho =>
        simp only [List.getElem?_toArray, List.getElem?_cons_zero, List.getElem?_cons_succ, Option.some.injEq] at ho
        subst ho
        have E49 := hV.get 33 rfl (hdep 47 (by decide))
        refine stp_call rfl Try.func166 (by kernel_rfl) rfl rfl (args := #[c.val]) (by simp only [List.map_toArray, List.map_cons, List.map_nil, E49]) ?_
        refine (left_calls c W).mono ?_
        rintro e w2 ⟨rfl, hb2⟩
        exact ⟨_, rfl, hK _ _ ⟨B, l, hV.put nE sE 34 rfl (by decide) (by rw [hs]; decide), hM.val (by rw [oT]; decide) (by decide) hb2⟩⟩
      | 49, ho =>
        simp only [List.getElem?_toArray, List.getElem?_cons_zero, List.getElem?_cons_succ, Option.some.injEq] at ho
        subst ho
        have h0 := hdep 0 (by decide)
        obtain ⟨w2, hr, hM2⟩ := hM.row keyPair Try.underlying197 nT kT 13 rfl (by decide) h0
        have EM := (hM.own h0).1
        have EK := hV.get 32 rfl (hdep 46 (by decide))
        have EV := hV.get 34 rfl (hdep 48 (by decide))
        refine stp_skip (w' := w2) rfl (by simp only [execOp, EM, EK, EV, Sem.run_bind, Sem.run_pure, hr, Result.andThen_ok]) ?_
        exact hK _ _ ⟨B, _, hV.skip (by rw [oE]; decide), hM2⟩
      | 50, ho =>
        simp only [List.getElem?_toArray, List.getElem?_cons_zero, List.getElem?_cons_succ, Option.some.injEq] at ho
        subst ho
        have h0 := hdep 0 (by decide)
        have EM := (hM.own h0).1
        refine stp_move rfl (by first | exact .inl rfl | exact .inr rfl) ?_
        rw [EM]
        exact hK _ _ ⟨B, l, hV.other (by rw [oE]; decide) (by rw [sE']; decide) (by decide), hM.hand (i := 50) (s := 51) (by decide) (by decide) (by decide) (by rw [oT]; decide) (by decide) h0 (by rw [hV.size, hs]; decide)⟩
      | 51, ho =>
        simp only [List.getElem?_toArray, List.getElem?_cons_zero, List.getElem?_cons_succ, Option.some.injEq] at ho
        subst ho
        have h0 := hdep 0 (by decide)
        have EM := (hM.aft (50, 51) (by decide) (hdep 50 (by decide))).2
        refine stp_move rfl (by first | exact .inl rfl | exact .inr rfl) ?_
        rw [EM]
        exact hK _ _ ⟨B, l, hV.other (by rw [oE]; decide) (by rw [sE']; decide) (by decide), hM.hand (i := 51) (s := 2) (by decide) (by decide) (by decide) (by rw [oT]; decide) (by decide) h0 (by rw [hV.size, hs]; decide)⟩
      | i + 52, ho => simp at ho
    · intro L a W hI hall
      obtain ⟨B, l, hV, hM⟩ := hI
      obtain ⟨_, h2, h3, h4⟩ := hM.own (hall 0 (by decide))
      have h5 := (hM.aft (51, 2) (by simp) (hall 51 (by decide))).2
      have hlt : ∀ p ∈ tabT c, p.1 < 52 := by
        intro p hp
        have h1 := List.mem_map.2 ⟨p, hp, (rfl : (fun q : Nat × (Int × Int) × RowV => q.1) p = p.1)⟩
        rw [opsT] at h1
        simp at h1
        omega
      have h6 : ∀ b, lookL l b = tabL (fun _ => true) (tabT c) b := fun b => (h4 b).trans (tabL_same (fun p hp => .inl (hall p.1 (hlt p hp)).symm)).symm
      have HH := Lib.hid (And.intro h5 (And.intro (hV.defers.trans hdf) (And.intro (Nat.le_trans hBel.size h2) (And.intro h3 (And.intro h6 (below_step hBel hM.below))))))
      clear h2 h3 h4 h5 h6 hV hM hall
      go_wp2
      refine bodyPost_ret (results_tmp rfl _ _ _) HH.out.2.1 ⟨B, l, ?_, HH.out.2.2.1, HH.out.2.2.2.1, HH.out.2.2.2.2.1, HH.out.2.2.2.2.2⟩
      rw [eval_tmp, HH.out.1]
end Go.Proofs.Ytaoflcmjmhfblaa.I
