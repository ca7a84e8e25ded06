/- RankAlone: the last region. -/
import Derived.Test.YtaoflcmjmhfblaaMgA
import Derived.Test.YtaoflcmjmhfblaaMgJ
namespace Go.Proofs.Ytaoflcmjmhfblaa.R
open Go.RowKit Go.Proofs.YtaoflcmjmhfblaaW.PrintWords Go.Proofs.YtaoflcmjmhfblaaW.PrintLast Go.Proofs.YtaoflcmjmhfblaaW.PrintMore Go.Proofs.Ytaoflcmjmhfblaa.H Go.Shelf
set_option linter.unusedVariables false
set_option linter.unusedSimpArgs false
/-- A slice of the places L. -/
def OrdV (n : Nat) (L : List Int) (v : Value) (W : World) : Prop := ∃ A c, v = .slice A n c ∧ Kd.C (Kd.int .i64) W A n L
theorem OrdV.mono {n : Nat} {L : List Int} {v : Value} {W W' : World} (hb : Below W.heap.size W W') (h : OrdV n L v W) : OrdV n L v W' := by
  obtain ⟨A, c, e, hC⟩ := h
  exact ⟨A, c, e, Kd.C_below hC hb⟩
/-- A fresh order, of which OrderS alone is told. -/
def OrdE (st : Int) (ps : List PoolV) (qs : List QuoteV) (l : List Int) (v : Value) (W : World) : Prop := ∃ L A c, v = .slice A L.length c ∧ Kd.C (Kd.int .i64) W A L.length L ∧ OrderS st ps qs l L
theorem OrdE.mono {st : Int} {ps : List PoolV} {qs : List QuoteV} {l : List Int} {v : Value} {W W' : World} (hb : Below W.heap.size W W') (h : OrdE st ps qs l v W) : OrdE st ps qs l v W' := by
  obtain ⟨L, A, c, e, hC, hS⟩ := h
  exact ⟨L, A, c, e, Kd.C_below hC hb, hS⟩
set_option maxHeartbeats 4000000 in
set_option maxRecDepth 100000 in
theorem alone_reg (cs ds : Array Value) (g8 g9 nq cq cr np cp cp' : Nat) (Aq Ar Ap : Option Addr) (st sp sp' : Int) (hcf : CfF cs Ap np cp st sp) (hdf' : CfF ds Ap np cp' st sp') (spot : Bool) (now : Int) (X1 X2 : Value → World → Prop) (m1 : ∀ {v : Value} {W W' : World}, Below W.heap.size W W' → X1 v W → X1 v W') (m2 : ∀ {v : Value} {W W' : World}, Below W.heap.size W W' → X2 v W → X2 v W') {Q : Exit → Act → World → Prop} (a0 : Act) (W0 : World) (hs : a0.tmps.size = 78) (hdf : a0.defers = []) (f2 : a0.eval (.tmp 2) = .slice Aq nq cq) (f3 : a0.eval (.tmp 3) = .bool spot) (f4 : a0.eval (.tmp 4) = .int .u64 now) (f8 : a0.eval (.tmp 8) = .pointer (some ⟨g8, 0, none⟩)) (f9 : a0.eval (.tmp 9) = .pointer (some ⟨g9, 0, none⟩)) (f18 : a0.eval (.tmp 18) = .slice Ar nq cr) (h8 : W0.heap[g8]? = some (.cells cs 41 (0, 0))) (h9 : W0.heap[g9]? = some (.cells ds 41 (0, 0))) (k1 : ∀ W, Below W0.heap.size W0 W → Calls Try.prog 49 #[.agg cs, .slice Aq nq cq, .bool spot, .int .u64 now] W fun e w' => ∃ v, e = .returned v ∧ X1 v w' ∧ Below W.heap.size W w') (k2 : ∀ W, Below W0.heap.size W0 W → Calls Try.prog 49 #[.agg ds, .slice Ar nq cr, .bool spot, .int .u64 now] W fun e w' => ∃ v, e = .returned v ∧ X2 v w' ∧ Below W.heap.size W w') (k3 : ∀ W v v', X1 v W → X2 v' W → Calls Try.prog 53 #[v, v'] W fun e w' => e = .returned (.bool true) ∧ Below W.heap.size W w') (hQ : ∀ (W : World) (u0 u1 : Value), Below W0.heap.size W0 W → (X1) u0 W → (X2) u1 W → Q .normal (setA a0 [(64, .agg cs), (65, .slice Aq nq cq), (66, .bool spot), (67, .int .u64 now), (69, .agg ds), (70, .slice Ar nq cr), (71, .bool spot), (72, .int .u64 now), (74, .bool true), (75, .bool true), (76, .bool true), (77, .bool true), (16, .bool true), (68, u0), (73, u1)]) W) : (Code.region 13 #[{ dst := some 64, op := Op.load 41 (Operand.tmp 8), type := 41, pos := "law.go:91", after := #[], guard := none }, { dst := some 65, op := Op.move (Operand.tmp 2), type := 97, pos := "law.go:91", after := #[], guard := none }, { dst := some 66, op := Op.move (Operand.tmp 3), type := 4, pos := "law.go:91", after := #[], guard := none }, { dst := some 67, op := Op.move (Operand.tmp 4), type := 31, pos := "law.go:91", after := #[], guard := none }, { dst := some 68, op := Op.call { callee := Callee.value (Operand.func 49), args := #[Operand.tmp 64, Operand.tmp 65, Operand.tmp 66, Operand.tmp 67], argTypes := #[41, 97, 4, 31] }, type := 99, pos := "law.go:91", after := #[{ on := 0, ground := Ground.data }, { on := 1, ground := Ground.data }, { on := 2, ground := Ground.data }, { on := 3, ground := Ground.data }], guard := none }, { dst := some 69, op := Op.load 41 (Operand.tmp 9), type := 41, pos := "law.go:91", after := #[], guard := none }, { dst := some 70, op := Op.move (Operand.tmp 18), type := 97, pos := "law.go:91", after := #[], guard := none }, { dst := some 71, op := Op.move (Operand.tmp 3), type := 4, pos := "law.go:91", after := #[], guard := none }, { dst := some 72, op := Op.move (Operand.tmp 4), type := 31, pos := "law.go:91", after := #[], guard := none }, { dst := some 73, op := Op.call { callee := Callee.value (Operand.func 49), args := #[Operand.tmp 69, Operand.tmp 70, Operand.tmp 71, Operand.tmp 72], argTypes := #[41, 97, 4, 31] }, type := 99, pos := "law.go:91", after := #[{ on := 5, ground := Ground.data }, { on := 6, ground := Ground.data }, { on := 7, ground := Ground.data }, { on := 8, ground := Ground.data }, { on := 4, ground := Ground.chain }], guard := none }, { dst := some 74, op := Op.call { callee := Callee.value (Operand.func 53), args := #[Operand.tmp 68, Operand.tmp 73], argTypes := #[99, 99] }, type := 4, pos := "law.go:91", after := #[{ on := 4, ground := Ground.data }, { on := 9, ground := Ground.data }, { on := 9, ground := Ground.chain }], guard := none }, { dst := some 75, op := Op.move (Operand.tmp 74), type := 4, pos := "law.go:91", after := #[{ on := 10, ground := Ground.data }, { on := 10, ground := Ground.chain }], guard := none }, { dst := some 76, op := Op.call { callee := Callee.value (Operand.func 48), args := #[], argTypes := #[] }, type := 4, pos := "law.go:91", after := #[{ on := 11, ground := Ground.chain }, { on := 11, ground := Ground.guard }], guard := some (11, true) }, { dst := some 77, op := Op.pick (Operand.tmp 75) (Operand.tmp 76) (Operand.const (Value.bool false)), type := 4, pos := "law.go:91", after := #[{ on := 11, ground := Ground.data }, { on := 12, ground := Ground.data }], guard := none }, { dst := some 16, op := Op.assign (Operand.tmp 77), type := 4, pos := "law.go:91", after := #[{ on := 13, ground := Ground.data }, { on := 12, ground := Ground.chain }, { on := 0, ground := Ground.phase }, { on := 1, ground := Ground.phase }, { on := 2, ground := Ground.phase }, { on := 3, ground := Ground.phase }, { on := 4, ground := Ground.phase }, { on := 5, ground := Ground.phase }, { on := 6, ground := Ground.phase }, { on := 7, ground := Ground.phase }, { on := 8, ground := Ground.phase }, { on := 9, ground := Ground.phase }, { on := 10, ground := Ground.phase }, { on := 11, ground := Ground.phase }, { on := 12, ground := Ground.phase }, { on := 13, ground := Ground.phase }], guard := none }] true).wp Try.prog Q a0 W0 := by
  refine wp_region_inv_at (by kernel_rfl) (fun a0 L a W => a0.tmps.size = 78 ∧ VInv [(0, 64, .agg cs), (1, 65, .slice Aq nq cq), (2, 66, .bool spot), (3, 67, .int .u64 now), (5, 69, .agg ds), (6, 70, .slice Ar nq cr), (7, 71, .bool spot), (8, 72, .int .u64 now), (10, 74, .bool true), (11, 75, .bool true), (12, 76, .bool true), (13, 77, .bool true), (14, 16, .bool true)] [64, 65, 66, 67, 69, 70, 71, 72, 74, 75, 76, 77, 16, 68, 73] a0 L a ∧ FInv W0 [⟨4, 68, X1, m1⟩, ⟨9, 73, X2, m2⟩] L a W) (by kernel_rfl) ⟨hs, VInv.start _ _ _, FInv.start _ (below_drew (Below.refl _ _))⟩ ?_ ?_
  · intro L i' o a W K hI ho hL hdep0 hK
    obtain ⟨hs, hV, hA⟩ := hI
    have e2 := (hV.keep 2 (by decide)).trans f2
    have e3 := (hV.keep 3 (by decide)).trans f3
    have e4 := (hV.keep 4 (by decide)).trans f4
    have e8 := (hV.keep 8 (by decide)).trans f8
    have e9 := (hV.keep 9 (by decide)).trans f9
    have e18 := (hV.keep 18 (by decide)).trans f18
    have hdep := deps o hdep0
    clear hdep0
    match i', ho with
    | 0, ho =>
      simp only [List.getElem?_toArray, List.getElem?_cons_zero, List.getElem?_cons_succ, Option.some.injEq] at ho
      subst ho
      have E8 := e8
      refine stp_load rfl rfl E8 (blk_call hA.below h8) Try.underlying41 rfl (by rw [hcf.size]; kernel_rfl) ?_
      exact hK _ _ ⟨hs, hV.put (by show List.Nodup [0, 1, 2, 3, 5, 6, 7, 8, 10, 11, 12, 13, 14]; decide) (by show List.Nodup [64, 65, 66, 67, 69, 70, 71, 72, 74, 75, 76, 77, 16]; decide) 0 rfl (by decide) (by rw [hs]; decide), hA.val0 (by show ¬ 0 ∈ [4, 9]; decide) (by show ¬ 64 ∈ [68, 73]; decide)⟩
    | 1, ho =>
      simp only [List.getElem?_toArray, List.getElem?_cons_zero, List.getElem?_cons_succ, Option.some.injEq] at ho
      subst ho
      have E2 := e2
      refine stp_move rfl (by first | exact .inl rfl | exact .inr rfl) ?_
      rw [E2]
      exact hK _ _ ⟨hs, hV.put (by show List.Nodup [0, 1, 2, 3, 5, 6, 7, 8, 10, 11, 12, 13, 14]; decide) (by show List.Nodup [64, 65, 66, 67, 69, 70, 71, 72, 74, 75, 76, 77, 16]; decide) 1 rfl (by decide) (by rw [hs]; decide), hA.val0 (by show ¬ 1 ∈ [4, 9]; decide) (by show ¬ 65 ∈ [68, 73]; decide)⟩
    | 2, ho =>
      simp only [List.getElem?_toArray, List.getElem?_cons_zero, List.getElem?_cons_succ, Option.some.injEq] at ho
      subst ho
      have E3 := e3
      refine stp_move rfl (by first | exact .inl rfl | exact .inr rfl) ?_
      rw [E3]
      exact hK _ _ ⟨hs, hV.put (by show List.Nodup [0, 1, 2, 3, 5, 6, 7, 8, 10, 11, 12, 13, 14]; decide) (by show List.Nodup [64, 65, 66, 67, 69, 70, 71, 72, 74, 75, 76, 77, 16]; decide) 2 rfl (by decide) (by rw [hs]; decide), hA.val0 (by show ¬ 2 ∈ [4, 9]; decide) (by show ¬ 66 ∈ [68, 73]; decide)⟩
    | 3, ho =>
      simp only [List.getElem?_toArray, List.getElem?_cons_zero, List.getElem?_cons_succ, Option.some.injEq] at ho
      subst ho
      have E4 := e4
      refine stp_move rfl (by first | exact .inl rfl | exact .inr rfl) ?_
      rw [E4]
      exact hK _ _ ⟨hs, hV.put (by show List.Nodup [0, 1, 2, 3, 5, 6, 7, 8, 10, 11, 12, 13, 14]; decide) (by show List.Nodup [64, 65, 66, 67, 69, 70, 71, 72, 74, 75, 76, 77, 16]; decide) 3 rfl (by decide) (by rw [hs]; decide), hA.val0 (by show ¬ 3 ∈ [4, 9]; decide) (by show ¬ 67 ∈ [68, 73]; decide)⟩
    | 4, ho =>
      simp only [List.getElem?_toArray, List.getElem?_cons_zero, List.getElem?_cons_succ, Option.some.injEq] at ho
      subst ho
      have E64 := hV.get 0 rfl (hdep 0 (by decide))
      have E65 := hV.get 1 rfl (hdep 1 (by decide))
      have E66 := hV.get 2 rfl (hdep 2 (by decide))
      have E67 := hV.get 3 rfl (hdep 3 (by decide))
      refine stp_call rfl Try.func49 (by kernel_rfl) rfl rfl (args := #[.agg cs, .slice Aq nq cq, .bool spot, .int .u64 now]) (by simp only [List.map_toArray, List.map_cons, List.map_nil, E64, E65, E66, E67] <;> rfl) ?_
      refine (k1 W hA.below).mono ?_
      rintro e w2 ⟨v, rfl, hv, hb2⟩
      exact ⟨_, rfl, hK _ _ ⟨hs, hV.other (by show ¬ 4 ∈ [0, 1, 2, 3, 5, 6, 7, 8, 10, 11, 12, 13, 14]; decide) (by show ¬ 68 ∈ [64, 65, 66, 67, 69, 70, 71, 72, 74, 75, 76, 77, 16]; decide) (by decide), hA.put (by show List.Nodup [4, 9]; decide) (by show List.Nodup [68, 73]; decide) (List.mem_cons_self ..) (by rw [hV.size, hs]; show 68 < 78; decide) hb2 (hv)⟩⟩
    | 5, ho =>
      simp only [List.getElem?_toArray, List.getElem?_cons_zero, List.getElem?_cons_succ, Option.some.injEq] at ho
      subst ho
      have E9 := e9
      refine stp_load rfl rfl E9 (blk_call hA.below h9) Try.underlying41 rfl (by rw [hdf'.size]; kernel_rfl) ?_
      exact hK _ _ ⟨hs, hV.put (by show List.Nodup [0, 1, 2, 3, 5, 6, 7, 8, 10, 11, 12, 13, 14]; decide) (by show List.Nodup [64, 65, 66, 67, 69, 70, 71, 72, 74, 75, 76, 77, 16]; decide) 4 rfl (by decide) (by rw [hs]; decide), hA.val0 (by show ¬ 5 ∈ [4, 9]; decide) (by show ¬ 69 ∈ [68, 73]; decide)⟩
    | 6, ho =>
      simp only [List.getElem?_toArray, List.getElem?_cons_zero, List.getElem?_cons_succ, Option.some.injEq] at ho
      subst ho
      have E18 := e18
      refine stp_move rfl (by first | exact .inl rfl | exact .inr rfl) ?_
      rw [E18]
      exact hK _ _ ⟨hs, hV.put (by show List.Nodup [0, 1, 2, 3, 5, 6, 7, 8, 10, 11, 12, 13, 14]; decide) (by show List.Nodup [64, 65, 66, 67, 69, 70, 71, 72, 74, 75, 76, 77, 16]; decide) 5 rfl (by decide) (by rw [hs]; decide), hA.val0 (by show ¬ 6 ∈ [4, 9]; decide) (by show ¬ 70 ∈ [68, 73]; decide)⟩
    | 7, ho =>
      simp only [List.getElem?_toArray, List.getElem?_cons_zero, List.getElem?_cons_succ, Option.some.injEq] at ho
      subst ho
      have E3 := e3
      refine stp_move rfl (by first | exact .inl rfl | exact .inr rfl) ?_
      rw [E3]
      exact hK _ _ ⟨hs, hV.put (by show List.Nodup [0, 1, 2, 3, 5, 6, 7, 8, 10, 11, 12, 13, 14]; decide) (by show List.Nodup [64, 65, 66, 67, 69, 70, 71, 72, 74, 75, 76, 77, 16]; decide) 6 rfl (by decide) (by rw [hs]; decide), hA.val0 (by show ¬ 7 ∈ [4, 9]; decide) (by show ¬ 71 ∈ [68, 73]; decide)⟩
    | 8, ho =>
      simp only [List.getElem?_toArray, List.getElem?_cons_zero, List.getElem?_cons_succ, Option.some.injEq] at ho
      subst ho
      have E4 := e4
      refine stp_move rfl (by first | exact .inl rfl | exact .inr rfl) ?_
      rw [E4]
      exact hK _ _ ⟨hs, hV.put (by show List.Nodup [0, 1, 2, 3, 5, 6, 7, 8, 10, 11, 12, 13, 14]; decide) (by show List.Nodup [64, 65, 66, 67, 69, 70, 71, 72, 74, 75, 76, 77, 16]; decide) 7 rfl (by decide) (by rw [hs]; decide), hA.val0 (by show ¬ 8 ∈ [4, 9]; decide) (by show ¬ 72 ∈ [68, 73]; decide)⟩
    | 9, ho =>
      simp only [List.getElem?_toArray, List.getElem?_cons_zero, List.getElem?_cons_succ, Option.some.injEq] at ho
      subst ho
      have E69 := hV.get 4 rfl (hdep 5 (by decide))
      have E70 := hV.get 5 rfl (hdep 6 (by decide))
      have E71 := hV.get 6 rfl (hdep 7 (by decide))
      have E72 := hV.get 7 rfl (hdep 8 (by decide))
      refine stp_call rfl Try.func49 (by kernel_rfl) rfl rfl (args := #[.agg ds, .slice Ar nq cr, .bool spot, .int .u64 now]) (by simp only [List.map_toArray, List.map_cons, List.map_nil, E69, E70, E71, E72] <;> rfl) ?_
      refine (k2 W hA.below).mono ?_
      rintro e w2 ⟨v, rfl, hv, hb2⟩
      exact ⟨_, rfl, hK _ _ ⟨hs, hV.other (by show ¬ 9 ∈ [0, 1, 2, 3, 5, 6, 7, 8, 10, 11, 12, 13, 14]; decide) (by show ¬ 73 ∈ [64, 65, 66, 67, 69, 70, 71, 72, 74, 75, 76, 77, 16]; decide) (by decide), hA.put (by show List.Nodup [4, 9]; decide) (by show List.Nodup [68, 73]; decide) (List.mem_cons_of_mem _ (List.mem_cons_self ..)) (by rw [hV.size, hs]; show 73 < 78; decide) hb2 (hv)⟩⟩
    | 10, ho =>
      simp only [List.getElem?_toArray, List.getElem?_cons_zero, List.getElem?_cons_succ, Option.some.injEq] at ho
      subst ho
      have P68 := hA.told _ (List.mem_cons_self ..) (hdep 4 (by decide))
      simp only [] at P68
      have P73 := hA.told _ (List.mem_cons_of_mem _ (List.mem_cons_self ..)) (hdep 9 (by decide))
      simp only [] at P73
      refine stp_call rfl Try.func53 (by kernel_rfl) rfl rfl (args := #[a.eval (.tmp 68), a.eval (.tmp 73)]) (by simp only [List.map_toArray, List.map_cons, List.map_nil] <;> rfl) ?_
      refine (k3 W _ _ P68 P73).mono ?_
      rintro e w2 ⟨rfl, hb2⟩
      exact ⟨_, rfl, hK _ _ ⟨hs, hV.put (by show List.Nodup [0, 1, 2, 3, 5, 6, 7, 8, 10, 11, 12, 13, 14]; decide) (by show List.Nodup [64, 65, 66, 67, 69, 70, 71, 72, 74, 75, 76, 77, 16]; decide) 8 rfl (by decide) (by rw [hs]; decide), hA.val (by show ¬ 10 ∈ [4, 9]; decide) (by show ¬ 74 ∈ [68, 73]; decide) hb2⟩⟩
    | 11, ho =>
      simp only [List.getElem?_toArray, List.getElem?_cons_zero, List.getElem?_cons_succ, Option.some.injEq] at ho
      subst ho
      have E74 := hV.get 8 rfl (hdep 10 (by decide))
      refine stp_move rfl (by first | exact .inl rfl | exact .inr rfl) ?_
      rw [E74]
      exact hK _ _ ⟨hs, hV.put (by show List.Nodup [0, 1, 2, 3, 5, 6, 7, 8, 10, 11, 12, 13, 14]; decide) (by show List.Nodup [64, 65, 66, 67, 69, 70, 71, 72, 74, 75, 76, 77, 16]; decide) 9 rfl (by decide) (by rw [hs]; decide), hA.val0 (by show ¬ 11 ∈ [4, 9]; decide) (by show ¬ 75 ∈ [68, 73]; decide)⟩
    | 12, ho =>
      simp only [List.getElem?_toArray, List.getElem?_cons_zero, List.getElem?_cons_succ, Option.some.injEq] at ho
      subst ho
      have EG := hV.get 9 rfl (hdep 11 (by decide))
      refine stp_call_yes (s := 75) rfl rfl rfl EG Try.func48 (by kernel_rfl) rfl rfl (args := #[]) (by simp only [List.map_toArray, List.map_cons, List.map_nil] <;> rfl) ?_
      refine (lives_calls W).mono ?_
      rintro e w2 ⟨rfl, hb2⟩
      exact ⟨_, rfl, hK _ _ ⟨hs, hV.put (by show List.Nodup [0, 1, 2, 3, 5, 6, 7, 8, 10, 11, 12, 13, 14]; decide) (by show List.Nodup [64, 65, 66, 67, 69, 70, 71, 72, 74, 75, 76, 77, 16]; decide) 10 rfl (by decide) (by rw [hs]; decide), hA.val (by show ¬ 12 ∈ [4, 9]; decide) (by show ¬ 76 ∈ [68, 73]; decide) hb2⟩⟩
    | 13, ho =>
      simp only [List.getElem?_toArray, List.getElem?_cons_zero, List.getElem?_cons_succ, Option.some.injEq] at ho
      subst ho
      have E75 := hV.get 9 rfl (hdep 11 (by decide))
      have E76 := hV.get 10 rfl (hdep 12 (by decide))
      refine stp2 (v := .bool true) (w' := W) (.tmp 75) _ (.tmp 76) _ rfl E75 E76 (fun ρ hc hρ hρ2 => by clear hV hK hA; (first | (go_simp; done) | (go_simp; rfl))) ?_
      exact hK _ _ ⟨hs, hV.put (by show List.Nodup [0, 1, 2, 3, 5, 6, 7, 8, 10, 11, 12, 13, 14]; decide) (by show List.Nodup [64, 65, 66, 67, 69, 70, 71, 72, 74, 75, 76, 77, 16]; decide) 11 rfl (by decide) (by rw [hs]; decide), hA.val0 (by show ¬ 13 ∈ [4, 9]; decide) (by show ¬ 77 ∈ [68, 73]; decide)⟩
    | 14, ho =>
      simp only [List.getElem?_toArray, List.getElem?_cons_zero, List.getElem?_cons_succ, Option.some.injEq] at ho
      subst ho
      have E77 := hV.get 11 rfl (hdep 13 (by decide))
      refine stp_move rfl (by first | exact .inl rfl | exact .inr rfl) ?_
      rw [E77]
      exact hK _ _ ⟨hs, hV.put (by show List.Nodup [0, 1, 2, 3, 5, 6, 7, 8, 10, 11, 12, 13, 14]; decide) (by show List.Nodup [64, 65, 66, 67, 69, 70, 71, 72, 74, 75, 76, 77, 16]; decide) 12 rfl (by decide) (by rw [hs]; decide), hA.val0 (by show ¬ 14 ∈ [4, 9]; decide) (by show ¬ 16 ∈ [68, 73]; decide)⟩
    | i' + 15, ho => simp at ho
  · intro L a W hI hall
    obtain ⟨hs', hV, hA⟩ := hI
    have ha : a = setA a0 [(64, a.eval (.tmp 64)), (65, a.eval (.tmp 65)), (66, a.eval (.tmp 66)), (67, a.eval (.tmp 67)), (69, a.eval (.tmp 69)), (70, a.eval (.tmp 70)), (71, a.eval (.tmp 71)), (72, a.eval (.tmp 72)), (74, a.eval (.tmp 74)), (75, a.eval (.tmp 75)), (76, a.eval (.tmp 76)), (77, a.eval (.tmp 77)), (16, a.eval (.tmp 16)), (68, a.eval (.tmp 68)), (73, a.eval (.tmp 73))] := hV.act (fun k hk => by rw [hs]; simp at hk; omega)
    rw [hV.get 0 rfl (hall 0 (by decide))] at ha
    rw [hV.get 1 rfl (hall 1 (by decide))] at ha
    rw [hV.get 2 rfl (hall 2 (by decide))] at ha
    rw [hV.get 3 rfl (hall 3 (by decide))] at ha
    rw [hV.get 4 rfl (hall 5 (by decide))] at ha
    rw [hV.get 5 rfl (hall 6 (by decide))] at ha
    rw [hV.get 6 rfl (hall 7 (by decide))] at ha
    rw [hV.get 7 rfl (hall 8 (by decide))] at ha
    rw [hV.get 8 rfl (hall 10 (by decide))] at ha
    rw [hV.get 9 rfl (hall 11 (by decide))] at ha
    rw [hV.get 10 rfl (hall 12 (by decide))] at ha
    rw [hV.get 11 rfl (hall 13 (by decide))] at ha
    rw [hV.get 12 rfl (hall 14 (by decide))] at ha
    rw [ha]
    exact hQ W _ _ hA.below (hA.told _ (List.mem_cons_self ..) (hall 4 (by decide))) (hA.told _ (List.mem_cons_of_mem _ (List.mem_cons_self ..)) (hall 9 (by decide)))
end Go.Proofs.Ytaoflcmjmhfblaa.R
/- RankAlone: the walk. -/
namespace Go.Proofs.Ytaoflcmjmhfblaa.R
open Go.RowKit Go.Proofs.YtaoflcmjmhfblaaW.PrintWords Go.Proofs.YtaoflcmjmhfblaaW.PrintLast Go.Proofs.YtaoflcmjmhfblaaW.PrintMore Go.Proofs.Ytaoflcmjmhfblaa.H Go.Shelf
set_option linter.unusedVariables false
set_option linter.unusedSimpArgs false
theorem kQuote_M (w : World) (base : Nat) (ok : Nat → Prop) (q : QuoteV) : kQuote.M w base ok q q.cells.toList := ⟨_, _, rfl, rfl, _, _, rfl, rfl, rfl⟩
theorem kQuote_K {w : World} {q : QuoteV} {cs : List Value} (h : kQuote.K w q cs) : cs = q.cells.toList := by
  obtain ⟨c1, c1', rfl, q1, h4⟩ := h
  obtain ⟨c2, c3, rfl, q2, q3⟩ := h4
  cases q1; cases q2; cases q3
  rfl
theorem kQuote_KM {w w' : World} {base : Nat} {ok : Nat → Prop} (x : QuoteV) (cs : List Value) (h : kQuote.K w x cs) : kQuote.M w' base ok x cs := by
  rw [kQuote_K h]
  exact kQuote_M _ _ _ _
theorem infoQuote : (Try.prog.info? 106).map (fun i => (i.zero, i.size, i.bytes)) = some (some (.agg #[.int .i64 0, .int .i64 0, .int .u64 0]), 3, 24) := by kernel_rfl
theorem quote_at {e : Nat} {w : World} {base : Nat} {ok : Nat → Prop} {g n c : Nat} {l : List QuoteV} (h : kQuote.R e w base ok (.slice (some ⟨g, 0, none⟩) n c) l) {i : Nat} (hi : i < n) {x : QuoteV} (hx : l.getD i zQuote = x) : ∀ j v, x.cells.toList[j]? = some v → w.cell? ⟨g, i * 3 + j, none⟩ = some v := by
  obtain ⟨c, _, hM, hc, _⟩ := Kd.R_elem h zQuote (i : Int) (by omega) (by omega)
  have hK := kQuote_K (kQuote.K_of_M hM)
  rw [Int.toNat_natCast, hx] at hK
  subst hK
  intro j v hv
  have := hc j v hv
  rw [Int.toNat_natCast] at this
  exact this
/-- What is told of a shut pool. -/
def told (q : QuoteV) (now price score : Int) : QuoteV := ⟨if q.till > now then price else q.price, score, q.till⟩
theorem set_getD_ne {l : List QuoteV} {k i : Nat} (h : i ≠ k) (x : QuoteV) : (l.set k x).getD i zQuote = l.getD i zQuote := by
  simp [List.getD_eq_getElem?_getD, List.getElem?_set, Ne.symm h]
theorem set_getD_eq {l : List QuoteV} {k : Nat} (h : k < l.length) (x : QuoteV) : (l.set k x).getD k zQuote = x := by
  simp [List.getD_eq_getElem?_getD, List.getElem?_set, h]
theorem opens_told {ps : List PoolV} {qs : List QuoteV} {spot : Bool} {now price score : Int} {k : Nat} (hk : k < qs.length) (hs : openQ (qs.getD k zQuote) now = false) :
    opensL ps (qs.set k (told (qs.getD k zQuote) now price score)) spot now = opensL ps qs spot now := by
  unfold opensL thoseL
  rw [List.length_set]
  congr 1
  refine List.filter_congr (fun i _ => ?_)
  by_cases e : i = k
  · subst e
    rw [set_getD_eq hk]
    unfold openP
    rw [hs]
    congr 1
    unfold openQ at hs ⊢
    unfold told
    rw [decide_eq_false_iff_not] at hs ⊢
    simp only
    split <;> omega
  · rw [set_getD_ne e]
theorem told_at {ps : List PoolV} {qs : List QuoteV} {spot : Bool} {now price score : Int} {k : Nat} (hs : openQ (qs.getD k zQuote) now = false) :
    ∀ x ∈ opensL ps qs spot now, qAt (qs.set k (told (qs.getD k zQuote) now price score)) x = qAt qs x := by
  intro x hx
  obtain ⟨i, rfl, h1, h2⟩ := thoseL_mem.1 hx
  unfold qAt
  rw [Int.toNat_natCast]
  refine set_getD_ne (fun e => ?_) _
  subst e
  unfold openP at h2
  rw [hs] at h2
  simp at h2
theorem cff_set {ds : Array Value} {Ap Ad : Option Addr} {np cp nd cd : Nat} {st st' sp' : Int} (h : CfF ds Ad nd cd st' sp') : CfF ((ds.setIfInBounds 0 (.slice Ap np cp)).setIfInBounds 1 (.int .u8 st)) Ap np cp st sp' where
  size := by simpa using h.size
  one := by
    have h1 := h.one
    rw [Array.all_eq_true] at h1 ⊢
    intro i hi
    simp only [Array.size_setIfInBounds] at hi
    rw [Array.getElem_setIfInBounds]
    split
    · rfl
    · rw [Array.getElem_setIfInBounds]
      split
      · rfl
      · exact h1 i hi
    simpa using hi
  c0 := by
    have := h.size
    simp [Array.getElem?_setIfInBounds, this]
  c1 := by
    have := h.size
    simp [Array.getElem?_setIfInBounds, this]
  c2 := by
    have := h.c2
    simp only [Array.getElem?_setIfInBounds]
    simpa using this
end Go.Proofs.Ytaoflcmjmhfblaa.R
/- RankAlone: the walk. -/
namespace Go.Proofs.Ytaoflcmjmhfblaa.R
open Go.RowKit Go.Proofs.YtaoflcmjmhfblaaW.PrintWords Go.Proofs.YtaoflcmjmhfblaaW.PrintLast Go.Proofs.YtaoflcmjmhfblaaW.PrintMore Go.Proofs.Ytaoflcmjmhfblaa.H Go.Shelf
set_option linter.unusedVariables false
set_option linter.unusedSimpArgs false
set_option maxHeartbeats 16000000 in
set_option maxRecDepth 100000 in
theorem rankAlone_calls (cs ds : Array Value) (Ap Aq Ad : Option Addr) (cp cq nd cd : Nat) (st sp std spd : Int) (ps : List PoolV) (qs : List QuoteV) (spot : Bool) (now pt price score : Int) (w : World)
    (hcf : CfF cs Ap ps.length cp st sp) (hdf : CfF ds Ad nd cd std spd) (hps : Kd.C kPool w Ap ps.length ps) (hqs : Kd.C kQuote w Aq qs.length qs) (hsz : ps.length * 40 ≤ 140737488355328) (hp0 : 0 ≤ pt) (hp1 : pt ≤ 255) :
    Calls Try.prog 12 #[.agg cs, .agg ds, .slice Aq qs.length cq, .bool spot, .int .u64 now, .int .u8 pt, .int .i64 price, .int .i64 score] w fun e w' => e = .returned (.bool true) ∧ Below w.heap.size w w' := by
  have HPS := Lib.hid hps
  have HQS := Lib.hid hqs
  have HCF := Lib.hid hcf
  have HDF := Lib.hid hdf
  have HSZ := Lib.hid hsz
  obtain ⟨np, hnp⟩ : ∃ n, ps.length = n := ⟨_, rfl⟩
  obtain ⟨nq, hnq⟩ : ∃ n, qs.length = n := ⟨_, rfl⟩
  rw [hnp] at HCF HPS
  rw [hnq] at HQS ⊢
  have HNP := Lib.hid hnp
  have HNQ := Lib.hid hnq
  clear hcf hdf hps hqs hsz hnp hnq
  have KG := Lib.hid (fun W => great_calls cs Ap Aq np cp nq cq st sp W HCF.out)
  obtain ⟨pt, rfl⟩ : ∃ m : Nat, pt = m := ⟨pt.toNat, by omega⟩
  go_enter Try.func12, Try.ntmps12
  go_upto_region 1 with fail
  refine gen_w (fun W => W.heap[w.heap.size]? = some (.cells cs 41 (0, 0)) ∧ W.heap[w.heap.size + 1]? = some (.cells ds 41 (0, 0)) ∧ w.heap.size + 2 ≤ W.heap.size ∧ Below w.heap.size w W) ⟨?_, ?_, ?_, below_alloc (below_alloc (Below.refl _ _) _) _⟩ ?_
  · exact (Below.heap_alloc _ _ _ (by simp)).trans (heap_alloc_new _ _)
  · have h3 := heap_alloc_new (w.alloc (.cells cs 41 (0, 0))) (.cells ds 41 (0, 0))
    rw [World.size_alloc] at h3
    exact h3
  · simp [World.size_alloc]
  rintro W ⟨h0, h1, hW2, hB⟩
  have H0 := Lib.hid h0
  have H1 := Lib.hid h1
  have HB := Lib.hid hB
  have HW2 := Lib.hid hW2
  clear h0 h1 hB hW2
  by_cases hg : 70 < np ∨ 70 < nq
  · rw [decide_eq_true hg] at KG
    clear hg
    go_wp2_with (first
      | (go_at_call 48; refine (lives_calls _).mono ?_; rintro e w2 ⟨rfl, hb⟩; have HB2 := Lib.hid (below_step HB1.out hb); clear hb)
      | (go_at_call 47; refine (KG.out _).mono ?_; rintro e w1 ⟨rfl, hb⟩; have HB1 := Lib.hid (below_step HB.out hb); have H01 := Lib.hid (blk_call hb H0.out); have H11 := Lib.hid (blk_call hb H1.out); have HV1 := Lib.hid hb; clear hb)
      | ((with_reducible refine gate_load 41 rfl ?_); refine wpList_load_row rfl 41 _ rfl _ rfl 41 _ _ _ H0.out Try.underlying41 rfl (by rw [HCF.out.size]; kernel_rfl) ?_))
    go_ret
    exact ⟨rfl, HB2.out⟩
  rw [decide_eq_false hg] at KG
  have hp70 : np ≤ 70 := by omega
  have hq70 : nq ≤ 70 := by omega
  clear hg
  by_cases hz : nq = 0
  · subst hz
    go_wp2_with (first
      | (go_at_call 48; refine (lives_calls _).mono ?_; rintro e w2 ⟨rfl, hb⟩; have HB2 := Lib.hid (below_step HB1.out hb); clear hb)
      | (go_at_call 47; refine (KG.out _).mono ?_; rintro e w1 ⟨rfl, hb⟩; have HB1 := Lib.hid (below_step HB.out hb); have H01 := Lib.hid (blk_call hb H0.out); have H11 := Lib.hid (blk_call hb H1.out); have HV1 := Lib.hid hb; clear hb)
      | ((with_reducible refine gate_load 41 rfl ?_); refine wpList_load_row rfl 41 _ rfl _ rfl 41 _ _ _ H0.out Try.underlying41 rfl (by rw [HCF.out.size]; kernel_rfl) ?_))
    go_ret
    exact ⟨rfl, HB2.out⟩
  have hz1 : ((nq : Int) == 0) = false := by simpa using hz
  have hz2 : (nq : Int) ≠ 0 := by omega
  have hz3 : ¬ (nq : Int) = 0 := by omega
  obtain ⟨k, hk⟩ : ∃ k, pt % nq = k := ⟨_, rfl⟩
  have hkl : k < nq := by rw [← hk]; exact Nat.mod_lt _ (by omega)
  have hrem : Int.tmod (pt : Int) (nq : Int) = (k : Int) := by
    rw [← hk, Int.tmod_eq_emod_of_nonneg (by omega)]
    omega
  clear hk
  have KI := Lib.hid (show ∀ X, Below w.heap.size w X → _ from fun X hX => isOpen0_calls cq (k : Int) now HNQ.out (Kd.C_below HQS.out hX))
  have hO : isO qs (k : Int) now = openQ (qs.getD k zQuote) now := by
    unfold isO qAt
    rw [HNQ.out, Int.toNat_natCast]
    simp [hkl]
  rw [hO] at KI
  clear hO
  go_upto_region 4 with (first
    | (go_at_call 47; refine (KG.out _).mono ?_; rintro e w1 ⟨rfl, hb⟩; have HB1 := Lib.hid (below_step HB.out hb); have H01 := Lib.hid (blk_call hb H0.out); have H11 := Lib.hid (blk_call hb H1.out); have HV1 := Lib.hid hb; clear hb)
    | ((with_reducible refine gate_load 41 rfl ?_); refine wpList_load_row rfl 41 _ rfl _ rfl 41 _ _ _ H0.out Try.underlying41 rfl (by rw [HCF.out.size]; kernel_rfl) ?_))
  obtain ⟨b, hb⟩ : ∃ b, openQ (qs.getD k zQuote) now = b := ⟨_, rfl⟩
  rw [hb] at KI
  cases b
  case true =>
    go_wp2_with (first
      | (go_at_call 51; refine (KI.out _ HB1.out).mono ?_; rintro e w' ⟨rfl, rfl⟩)
      | (go_at_call 48; refine (lives_calls _).mono ?_; rintro e w2 ⟨rfl, hb⟩; have HB2 := Lib.hid (below_step HB1.out hb); clear hb))
    go_ret
    exact ⟨rfl, HB2.out⟩
  case false =>
    have HSH := Lib.hid hb
    clear hb hz hz1 hz2 hz3 hrem KG
    have hkN : (k : Int) < (nq : Int) := by omega
    have hk0 : (0 : Int) ≤ (k : Int) := by omega
    have HKN := Lib.hid hkl
    go_upto_region 8 with (first
      | (go_at_call 51; refine (KI.out _ HB1.out).mono ?_; rintro e w' ⟨rfl, rfl⟩)
      | ((with_reducible refine gate_builtin (b := .append) (xs := #[.tmp 38, .tmp 39]) rfl ?_); at_builtin; refine Kd.R_append_rows kQuote (w0 := W) W.heap.size rfl (.tmp 38) (.tmp 39) 97 106 (.agg #[.int .i64 0, .int .i64 0, .int .u64 0]) 24 rfl Try.underlying97 infoQuote rfl (by decide) (by decide) (.slice none 0 0) [] qs Aq nq cq (fun _ => True) (fun _ => False) rfl rfl (Kd.R_nil _ _ _ _ _) (Kd.C_below HQS.out HB1.out) (fun x cs h => kQuote_KM x cs h) (fun _ h => h.elim) (fun _ _ => trivial) HV1.out HV1.out.size (by simp only [List.length_nil]; omega) ?_; intro v2 w2 ho hb hg hat; rw [List.nil_append] at ho; have HR2 := Lib.hid ho; have HV2 := Lib.hid hb; clear ho hb hg hat))
    obtain ⟨g, cap, hv, hgb, hgl, cells, hcl⟩ := Kd.R_form HR2.out (by rw [HNQ.out]; omega)
    rw [HNQ.out] at hv
    subst hv
    clear hgl hcl cells
    have HG := Lib.hid hgb
    clear hgb
    have HB2 := Lib.hid (below_step HB.out HV2.out)
    have H02 := Lib.hid (blk_call HV2.out H0.out)
    have H12 := Lib.hid (blk_call HV2.out H1.out)
    clear H01 H11 KI
    obtain ⟨q, hq⟩ : ∃ q, qs.getD k zQuote = q := ⟨_, rfl⟩
    have C2 := Lib.hid (quote_at HR2.out hkl hq)
    have HQ := Lib.hid hq
    rw [hq] at HSH
    clear hq
    have f21 := C2.out 1 _ rfl
    go_upto_region 9 with ((with_reducible refine gate_storeT 2 rfl ?_); refine Kd.R_store kQuote (w0 := W) W.heap.size rfl rfl 2 _ _ rfl 106 (g := g) (n := nq) (cap := cap) (k : Int) 1 qs ⟨q.price, score, q.till⟩ (.int .i64 score) [.int .i64 score] q.cells.toList (fun _ => True) (fun _ => False) rfl rfl rfl rfl (by kernel_rfl) (by simp [Value.oneCell']) HR2.out (by omega) (by omega) rfl C2.out (by show 1 + 1 ≤ 3; omega) (kQuote_M _ _ _ _) (fun _ h => h.elim) HV2.out ?_; intro w3 hr hb hg; have HR3 := Lib.hid hr; have HV3 := Lib.hid hb; clear hr hb hg)
    have x1e := set_getD_eq (l := qs) (k := k) (by rw [HNQ.out]; exact HKN.out) ⟨q.price, score, q.till⟩
    have C3 := Lib.hid (quote_at HR3.out HKN.out x1e)
    clear x1e f21
    have f32 : w3.cell? ⟨g, k * 3 + 2, none⟩ = some (.int .u64 q.till) := C3.out 2 _ rfl
    have HLS := Lib.hid (show (qs.set k (told q now price score)).length = nq by rw [List.length_set]; exact HNQ.out)
    have HOT := Lib.hid (show opensL ps (qs.set k (told q now price score)) spot now = opensL ps qs spot now by
      rw [← HQ.out]
      exact opens_told (by rw [HNQ.out]; exact HKN.out) (by rw [HQ.out]; exact HSH.out))
    have HTA := Lib.hid (show ∀ x ∈ opensL ps qs spot now, qAt (qs.set k (told q now price score)) x = qAt qs x by
      rw [← HQ.out]
      exact told_at (by rw [HQ.out]; exact HSH.out))
    have H03 := Lib.hid (blk_call HV3.out H0.out)
    have H13 := Lib.hid (blk_call HV3.out H1.out)
    by_cases ht : q.till > now
    · have HTE := Lib.hid (show told q now price score = ⟨price, score, q.till⟩ by unfold told; rw [if_pos ht])
      go_upto_region 11 with ((with_reducible refine gate_storeT 2 rfl ?_); refine Kd.R_store kQuote (w0 := W) W.heap.size rfl rfl 2 _ _ rfl 106 (g := g) (n := nq) (cap := cap) (k : Int) 0 (qs.set k ⟨q.price, score, q.till⟩) ⟨price, score, q.till⟩ (.int .i64 price) [.int .i64 price] (QuoteV.cells ⟨q.price, score, q.till⟩).toList (fun _ => True) (fun _ => False) rfl rfl rfl rfl (by kernel_rfl) (by simp [Value.oneCell']) HR3.out (by omega) (by omega) rfl C3.out (by show 0 + 1 ≤ 3; omega) (kQuote_M _ _ _ _) (fun _ h => h.elim) HV3.out ?_; intro w4 hr hb hg; have HR4 := Lib.hid hr; have HV4 := Lib.hid hb; clear hr hb hg)
      have HRx := HR4.out
      rw [Int.toNat_natCast, List.set_set, ← HTE.out] at HRx
      have HRx := Lib.hid HRx
      have HBx := Lib.hid (below_step HB.out HV4.out)
      have H0x := Lib.hid (blk_call HV4.out H0.out)
      have H1x := Lib.hid (blk_call HV4.out H1.out)
      clear ht f32 HR3 HR4 C3 H03 H13 H02 H12
      have g0 := (blk_cell H0x.out 0).trans HCF.out.c0
      go_upto_region 12 with ((with_reducible refine gate_storeT 37 rfl ?_); refine bx_store1 rfl 37 (.tmp 60) (.tmp 59) rfl (w.heap.size + 1) 0 rfl (.slice Ap np cp) rfl 41 ds H1x.out (by kernel_rfl) (by rw [HDF.out.size]; decide) rfl (ds.setIfInBounds 0 (.slice Ap np cp)) rfl HBx.out (by omega) ?_; intro w5 hga hsz hoth hb; have HR5 := Lib.hid (Kd.R_move (Kd.R_bound HRx.out) (fun j hj => hoth j (by have h1 := hj.2.1; have h2 := HW2.out; omega))); have H15 := Lib.hid hga; have H05 := Lib.hid ((hoth w.heap.size (by omega)).trans H0x.out); have HB5 := Lib.hid hb; clear hga hsz hoth hb)
      clear g0
      have g1 := (blk_cell H05.out 1).trans HCF.out.c1
      go_upto_region 13 with ((with_reducible refine gate_storeT 5 rfl ?_); refine bx_store1 rfl 5 (.tmp 63) (.tmp 62) rfl (w.heap.size + 1) 1 rfl (.int .u8 st) rfl 41 (ds.setIfInBounds 0 (.slice Ap np cp)) H15.out (by kernel_rfl) (by rw [Array.size_setIfInBounds, HDF.out.size]; decide) rfl ((ds.setIfInBounds 0 (.slice Ap np cp)).setIfInBounds 1 (.int .u8 st)) rfl HB5.out (by omega) ?_; intro w6 hga hsz hoth hb; have HR6 := Lib.hid (Kd.R_move (Kd.R_bound HR5.out) (fun j hj => hoth j (by have h1 := hj.2.1; have h2 := HW2.out; omega))); have H16 := Lib.hid hga; have H06 := Lib.hid ((hoth w.heap.size (by omega)).trans H05.out); have HB6 := Lib.hid hb; clear hga hsz hoth hb)
      have hC6 := (Kd.R_reads' HR6.out).2.2
      rw [HLS.out] at hC6
      refine alone_reg cs _ w.heap.size (w.heap.size + 1) nq cq cap np cp cp Aq (some ⟨g, 0, none⟩) Ap st sp spd HCF.out (cff_set HDF.out) spot now (OrdE st ps qs (opensL ps qs spot now)) (OrdE st ps (qs.set k (told q now price score)) (opensL ps (qs.set k (told q now price score)) spot now)) OrdE.mono OrdE.mono _ _ rfl rfl rfl rfl rfl rfl rfl rfl H06.out H16.out ?_ ?_ ?_ ?_
      · intro X hX
        have h := order_calls cs Ap Aq cp cq st sp ps qs spot now X (by rw [HNP.out]; exact HCF.out) (by rw [HNP.out]; exact Kd.C_below HPS.out (below_step HB6.out hX)) (by rw [HNQ.out]; exact Kd.C_below HQS.out (below_step HB6.out hX)) HSZ.out
        rw [HNQ.out] at h
        refine h.mono ?_
        rintro e w' ⟨A', c', L, rfl, hc, hC, hb, hS⟩
        exact ⟨_, rfl, ⟨L, A', c', rfl, hC, hS⟩, hb⟩
      · intro X hX
        have h := order_calls ((ds.setIfInBounds 0 (.slice Ap np cp)).setIfInBounds 1 (.int .u8 st)) Ap (some ⟨g, 0, none⟩) cp cap st spd ps (qs.set k (told q now price score)) spot now X (by rw [HNP.out]; exact cff_set HDF.out) (by rw [HNP.out]; exact Kd.C_below HPS.out (below_step HB6.out hX)) (by rw [HLS.out]; exact Kd.C_below hC6 hX) HSZ.out
        rw [HLS.out] at h
        refine h.mono ?_
        rintro e w' ⟨A', c', L, rfl, hc, hC, hb, hS⟩
        exact ⟨_, rfl, ⟨L, A', c', rfl, hC, hS⟩, hb⟩
      · rintro X v v' ⟨L, A1, c1, rfl, hC1, hS1⟩ ⟨M, A2, c2, rfl, hC2, hS2⟩
        have e : L = M := order_alone (HOT.out) (HTA.out) hS1 hS2
        subst e
        refine (ints_calls c1 c2 rfl rfl hC1 hC2).mono ?_
        rintro e w' ⟨rfl, hb⟩
        exact ⟨ret_b (decide_eq_true rfl), hb.1⟩
      · intro w7 u0 u1 hb _ _
        simp only [put_none_, setA, List.foldl_cons, List.foldl_nil, List.setIfInBounds_toArray, List.set_cons_succ, List.set_cons_zero]
        have HB7 := Lib.hid (below_step HB6.out hb)
        clear hb
        go_wp2_with fail
        go_ret
        exact ⟨rfl, HB7.out⟩
    · have HTE := Lib.hid (show told q now price score = ⟨q.price, score, q.till⟩ by unfold told; rw [if_neg ht])
      go_upto_region 11 with fail
      have HRx := HR3.out
      rw [Int.toNat_natCast, ← HTE.out] at HRx
      have HRx := Lib.hid HRx
      have HBx := Lib.hid (below_step HB.out HV3.out)
      have H0x := H03
      have H1x := H13
      clear ht f32 HR3 C3 H02 H12
      have g0 := (blk_cell H0x.out 0).trans HCF.out.c0
      go_upto_region 12 with ((with_reducible refine gate_storeT 37 rfl ?_); refine bx_store1 rfl 37 (.tmp 60) (.tmp 59) rfl (w.heap.size + 1) 0 rfl (.slice Ap np cp) rfl 41 ds H1x.out (by kernel_rfl) (by rw [HDF.out.size]; decide) rfl (ds.setIfInBounds 0 (.slice Ap np cp)) rfl HBx.out (by omega) ?_; intro w5 hga hsz hoth hb; have HR5 := Lib.hid (Kd.R_move (Kd.R_bound HRx.out) (fun j hj => hoth j (by have h1 := hj.2.1; have h2 := HW2.out; omega))); have H15 := Lib.hid hga; have H05 := Lib.hid ((hoth w.heap.size (by omega)).trans H0x.out); have HB5 := Lib.hid hb; clear hga hsz hoth hb)
      clear g0
      have g1 := (blk_cell H05.out 1).trans HCF.out.c1
      go_upto_region 13 with ((with_reducible refine gate_storeT 5 rfl ?_); refine bx_store1 rfl 5 (.tmp 63) (.tmp 62) rfl (w.heap.size + 1) 1 rfl (.int .u8 st) rfl 41 (ds.setIfInBounds 0 (.slice Ap np cp)) H15.out (by kernel_rfl) (by rw [Array.size_setIfInBounds, HDF.out.size]; decide) rfl ((ds.setIfInBounds 0 (.slice Ap np cp)).setIfInBounds 1 (.int .u8 st)) rfl HB5.out (by omega) ?_; intro w6 hga hsz hoth hb; have HR6 := Lib.hid (Kd.R_move (Kd.R_bound HR5.out) (fun j hj => hoth j (by have h1 := hj.2.1; have h2 := HW2.out; omega))); have H16 := Lib.hid hga; have H06 := Lib.hid ((hoth w.heap.size (by omega)).trans H05.out); have HB6 := Lib.hid hb; clear hga hsz hoth hb)
      have hC6 := (Kd.R_reads' HR6.out).2.2
      rw [HLS.out] at hC6
      refine alone_reg cs _ w.heap.size (w.heap.size + 1) nq cq cap np cp cp Aq (some ⟨g, 0, none⟩) Ap st sp spd HCF.out (cff_set HDF.out) spot now (OrdE st ps qs (opensL ps qs spot now)) (OrdE st ps (qs.set k (told q now price score)) (opensL ps (qs.set k (told q now price score)) spot now)) OrdE.mono OrdE.mono _ _ rfl rfl rfl rfl rfl rfl rfl rfl H06.out H16.out ?_ ?_ ?_ ?_
      · intro X hX
        have h := order_calls cs Ap Aq cp cq st sp ps qs spot now X (by rw [HNP.out]; exact HCF.out) (by rw [HNP.out]; exact Kd.C_below HPS.out (below_step HB6.out hX)) (by rw [HNQ.out]; exact Kd.C_below HQS.out (below_step HB6.out hX)) HSZ.out
        rw [HNQ.out] at h
        refine h.mono ?_
        rintro e w' ⟨A', c', L, rfl, hc, hC, hb, hS⟩
        exact ⟨_, rfl, ⟨L, A', c', rfl, hC, hS⟩, hb⟩
      · intro X hX
        have h := order_calls ((ds.setIfInBounds 0 (.slice Ap np cp)).setIfInBounds 1 (.int .u8 st)) Ap (some ⟨g, 0, none⟩) cp cap st spd ps (qs.set k (told q now price score)) spot now X (by rw [HNP.out]; exact cff_set HDF.out) (by rw [HNP.out]; exact Kd.C_below HPS.out (below_step HB6.out hX)) (by rw [HLS.out]; exact Kd.C_below hC6 hX) HSZ.out
        rw [HLS.out] at h
        refine h.mono ?_
        rintro e w' ⟨A', c', L, rfl, hc, hC, hb, hS⟩
        exact ⟨_, rfl, ⟨L, A', c', rfl, hC, hS⟩, hb⟩
      · rintro X v v' ⟨L, A1, c1, rfl, hC1, hS1⟩ ⟨M, A2, c2, rfl, hC2, hS2⟩
        have e : L = M := order_alone (HOT.out) (HTA.out) hS1 hS2
        subst e
        refine (ints_calls c1 c2 rfl rfl hC1 hC2).mono ?_
        rintro e w' ⟨rfl, hb⟩
        exact ⟨ret_b (decide_eq_true rfl), hb.1⟩
      · intro w7 u0 u1 hb _ _
        simp only [put_none_, setA, List.foldl_cons, List.foldl_nil, List.setIfInBounds_toArray, List.set_cons_succ, List.set_cons_zero]
        have HB7 := Lib.hid (below_step HB6.out hb)
        clear hb
        go_wp2_with fail
        go_ret
        exact ⟨rfl, HB7.out⟩
end Go.Proofs.Ytaoflcmjmhfblaa.R
