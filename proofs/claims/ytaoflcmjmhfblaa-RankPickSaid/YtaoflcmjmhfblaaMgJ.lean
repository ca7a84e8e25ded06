/- RankFirst: two pools, two quotes taken. -/
import Derived.Test.YtaoflcmjmhfblaaMgI
import Derived.Test.YtaoflcmjmhfblaaMgA
namespace Go.Proofs.Ytaoflcmjmhfblaa.R
open Go.RowKit Go.Proofs.YtaoflcmjmhfblaaW.PrintWords Go.Proofs.YtaoflcmjmhfblaaW.PrintLast Go.Proofs.YtaoflcmjmhfblaaW.PrintMore Go.Proofs.Ytaoflcmjmhfblaa.H Go.Shelf
set_option linter.unusedVariables false
set_option linter.unusedSimpArgs false
set_option maxHeartbeats 4000000 in
set_option maxRecDepth 100000 in
theorem first_reg14 (ap al : Addr) (np cp n cl i x y g4 : Nat) (p1 p2 : PoolV) (hx1 : x < np) (hx2 : (x : Int) < (np : Int)) (hx0 : 0 ≤ (x : Int)) (hy1 : y < np) (hy2 : (y : Int) < (np : Int)) (hy0 : 0 ≤ (y : Int)) (hi1 : i < n) (hi2 : (i : Int) < (n : Int)) (hi0 : 0 ≤ (i : Int)) (hn1 : 0 < n) (hn2 : (0 : Int) < (n : Int)) {Q : Exit → Act → World → Prop} (a0 : Act) (W0 : World) (hs : a0.tmps.size = 195) (hdf : a0.defers = []) (f4 : a0.eval (.tmp 4) = .pointer (some ⟨g4, 0, none⟩)) (f9 : a0.eval (.tmp 9) = .slice (some al) n cl) (f12 : a0.eval (.tmp 12) = .int .i64 (i : Int)) (h4 : W0.cell? ⟨g4, 0, none⟩ = some (.slice (some ap) np cp)) (hl0 : W0.cell? al = some (.int .i64 (x : Int))) (hli : W0.cell? (al.add i) = some (.int .i64 (y : Int))) (hp1 : ∀ j v, p1.cells.toList[j]? = some v → W0.cell? ((ap.add (x * 4)).add j) = some v) (hp2 : ∀ j v, p2.cells.toList[j]? = some v → W0.cell? ((ap.add (y * 4)).add j) = some v) (hQ : ∀ (W : World) (g0 g1 : Nat), Below W0.heap.size W0 W → W0.heap.size ≤ g0 → W.heap[g0]? = some (.cells p1.cells 104 (0, 0)) → W0.heap.size ≤ g1 → W.heap[g1]? = some (.cells p2.cells 104 (0, 0)) → g1 ≠ g0 → Q .normal (setA a0 [(98, .pointer (some ⟨g4, 0, none⟩)), (99, .slice (some ap) np cp), (100, .slice (some al) n cl), (101, .pointer (some al)), (102, .int .i64 (x : Int)), (103, .pointer (some (ap.add (x * 4)))), (104, .agg p1.cells), (105, .pointer (some ⟨g4, 0, none⟩)), (106, .slice (some ap) np cp), (107, .slice (some al) n cl), (108, .int .i64 (i : Int)), (109, .pointer (some (al.add i))), (110, .int .i64 (y : Int)), (111, .pointer (some (ap.add (y * 4)))), (112, .agg p2.cells), (13, .pointer (some ⟨g0, 0, none⟩)), (14, .pointer (some ⟨g1, 0, none⟩))]) W) : (Code.region 14 #[{ dst := some 98, op := Op.fieldAddr 41 (Operand.tmp 4) 0, type := 0, pos := "law.go:61", after := #[], guard := none }, { dst := some 99, op := Op.load 37 (Operand.tmp 98), type := 37, pos := "law.go:61", after := #[{ on := 0, ground := Ground.data }], guard := none }, { dst := some 100, op := Op.move (Operand.tmp 9), type := 99, pos := "law.go:61", after := #[], guard := none }, { dst := some 101, op := Op.indexAddr 99 (Operand.tmp 100) (Operand.const (Value.int IntKind.i64 0)), type := 0, pos := "law.go:61", after := #[{ on := 2, ground := Ground.data }], guard := none }, { dst := some 102, op := Op.load 3 (Operand.tmp 101), type := 3, pos := "law.go:61", after := #[{ on := 3, ground := Ground.data }], guard := none }, { dst := some 103, op := Op.indexAddr 37 (Operand.tmp 99) (Operand.tmp 102), type := 0, pos := "law.go:61", after := #[{ on := 1, ground := Ground.data }, { on := 4, ground := Ground.data }], guard := none }, { dst := some 104, op := Op.load 104 (Operand.tmp 103), type := 104, pos := "law.go:61", after := #[{ on := 5, ground := Ground.data }], guard := none }, { dst := some 105, op := Op.fieldAddr 41 (Operand.tmp 4) 0, type := 0, pos := "law.go:61", after := #[{ on := 17, ground := Ground.gcOnly Departure.lateStores }], guard := none }, { dst := some 106, op := Op.load 37 (Operand.tmp 105), type := 37, pos := "law.go:61", after := #[{ on := 7, ground := Ground.data }, { on := 17, ground := Ground.gcOnly Departure.lateStores }], guard := none }, { dst := some 107, op := Op.move (Operand.tmp 9), type := 99, pos := "law.go:61", after := #[{ on := 17, ground := Ground.gcOnly Departure.lateStores }], guard := none }, { dst := some 108, op := Op.move (Operand.tmp 12), type := 3, pos := "law.go:61", after := #[{ on := 17, ground := Ground.gcOnly Departure.lateStores }], guard := none }, { dst := some 109, op := Op.indexAddr 99 (Operand.tmp 107) (Operand.tmp 108), type := 0, pos := "law.go:61", after := #[{ on := 9, ground := Ground.data }, { on := 10, ground := Ground.data }, { on := 17, ground := Ground.gcOnly Departure.lateStores }], guard := none }, { dst := some 110, op := Op.load 3 (Operand.tmp 109), type := 3, pos := "law.go:61", after := #[{ on := 11, ground := Ground.data }, { on := 17, ground := Ground.gcOnly Departure.lateStores }], guard := none }, { dst := some 111, op := Op.indexAddr 37 (Operand.tmp 106) (Operand.tmp 110), type := 0, pos := "law.go:61", after := #[{ on := 8, ground := Ground.data }, { on := 12, ground := Ground.data }, { on := 17, ground := Ground.gcOnly Departure.lateStores }], guard := none }, { dst := some 112, op := Op.load 104 (Operand.tmp 111), type := 104, pos := "law.go:61", after := #[{ on := 13, ground := Ground.data }, { on := 17, ground := Ground.gcOnly Departure.lateStores }], guard := none }, { dst := some 13, op := Op.alloc 104, type := 0, pos := "law.go:61", after := #[], guard := none }, { dst := some 14, op := Op.alloc 104, type := 0, pos := "law.go:61", after := #[], guard := none }, { dst := none, op := Op.store 104 (Operand.tmp 13) (Operand.tmp 104), type := 0, pos := "law.go:61", after := #[{ on := 15, ground := Ground.data }, { on := 6, ground := Ground.data }, { on := 0, ground := Ground.phase }, { on := 1, ground := Ground.phase }, { on := 2, ground := Ground.phase }, { on := 3, ground := Ground.phase }, { on := 4, ground := Ground.phase }, { on := 5, ground := Ground.phase }, { on := 6, ground := Ground.phase }, { on := 7, ground := Ground.textOnly Departure.lateStores }, { on := 8, ground := Ground.textOnly Departure.lateStores }, { on := 9, ground := Ground.textOnly Departure.lateStores }, { on := 10, ground := Ground.textOnly Departure.lateStores }, { on := 11, ground := Ground.textOnly Departure.lateStores }, { on := 12, ground := Ground.textOnly Departure.lateStores }, { on := 13, ground := Ground.textOnly Departure.lateStores }, { on := 14, ground := Ground.textOnly Departure.lateStores }, { on := 15, ground := Ground.phase }, { on := 16, ground := Ground.phase }], guard := none }, { dst := none, op := Op.store 104 (Operand.tmp 14) (Operand.tmp 112), type := 0, pos := "law.go:61", after := #[{ on := 16, ground := Ground.data }, { on := 14, ground := Ground.data }, { on := 17, ground := Ground.chain }, { on := 0, ground := Ground.phase }, { on := 1, ground := Ground.phase }, { on := 2, ground := Ground.phase }, { on := 3, ground := Ground.phase }, { on := 4, ground := Ground.phase }, { on := 5, ground := Ground.phase }, { on := 6, ground := Ground.phase }, { on := 7, ground := Ground.phase }, { on := 8, ground := Ground.phase }, { on := 9, ground := Ground.phase }, { on := 10, ground := Ground.phase }, { on := 11, ground := Ground.phase }, { on := 12, ground := Ground.phase }, { on := 13, ground := Ground.phase }, { on := 14, ground := Ground.phase }, { on := 15, ground := Ground.phase }, { on := 16, ground := Ground.phase }, { on := 17, ground := Ground.phase }], guard := none }] true).wp Try.prog Q a0 W0 := by
  refine wp_region_inv_at (by kernel_rfl) (fun a0 L a W => a0.tmps.size = 195 ∧ VInv [(0, 98, .pointer (some ⟨g4, 0, none⟩)), (1, 99, .slice (some ap) np cp), (2, 100, .slice (some al) n cl), (3, 101, .pointer (some al)), (4, 102, .int .i64 (x : Int)), (5, 103, .pointer (some (ap.add (x * 4)))), (6, 104, .agg p1.cells), (7, 105, .pointer (some ⟨g4, 0, none⟩)), (8, 106, .slice (some ap) np cp), (9, 107, .slice (some al) n cl), (10, 108, .int .i64 (i : Int)), (11, 109, .pointer (some (al.add i))), (12, 110, .int .i64 (y : Int)), (13, 111, .pointer (some (ap.add (y * 4)))), (14, 112, .agg p2.cells)] [98, 99, 100, 101, 102, 103, 104, 105, 106, 107, 108, 109, 110, 111, 112, 13, 14] a0 L a ∧ ∃ G : Nat → Nat, AInvs W0 [⟨15, 17, 13, #[.string ByteArray.empty, .bool false, .int .i64 0, .int .i64 0], p1.cells, 104⟩, ⟨16, 18, 14, #[.string ByteArray.empty, .bool false, .int .i64 0, .int .i64 0], p2.cells, 104⟩] L a W G) (by kernel_rfl) ⟨hs, VInv.start _ _ _, (fun _ => 0), AInvs.start _ (below_drew (Below.refl _ _))⟩ ?_ ?_
  · intro L i' o a W K hI ho hL hdep0 hK
    obtain ⟨hs, hV, G, hA⟩ := hI
    have e4 := (hV.keep 4 (by decide)).trans f4
    have e9 := (hV.keep 9 (by decide)).trans f9
    have e12 := (hV.keep 12 (by decide)).trans f12
    have hdep := deps o hdep0
    clear hdep0
    match i', ho with
    | 0, ho =>
      simp only [List.getElem?_toArray, List.getElem?_cons_zero, List.getElem?_cons_succ, Option.some.injEq] at ho
      subst ho
      have E4 := e4
      refine stp1 (v := .pointer (some ⟨g4, 0, none⟩)) (w' := W) (.tmp 4) _ rfl E4 (fun ρ hc hρ => by clear hV hK hA; first | (go_simp; done) | (go_simp; rfl)) ?_
      exact hK _ _ ⟨hs, hV.put (by show List.Nodup [0, 1, 2, 3, 4, 5, 6, 7, 8, 9, 10, 11, 12, 13, 14]; decide) (by show List.Nodup [98, 99, 100, 101, 102, 103, 104, 105, 106, 107, 108, 109, 110, 111, 112]; decide) 0 rfl (by decide) (by rw [hs]; decide), G, hA.val0 (by show ¬ 0 ∈ [15, 16]; decide) (by show ¬ 0 ∈ [17, 18]; decide) (by show ¬ 98 ∈ [13, 14]; decide)⟩
    | 1, ho =>
      simp only [List.getElem?_toArray, List.getElem?_cons_zero, List.getElem?_cons_succ, Option.some.injEq] at ho
      subst ho
      have E98 := hV.get 0 rfl (hdep 0 (by decide))
      have hcl := (hA.below.cell (World.block_lt_of_cell? _ _ h4)).trans h4
      refine stp1 (v := .slice (some ap) np cp) (w' := W) (.tmp 98) _ rfl E98 (fun ρ hc hρ => by clear hV hK hA; first | (go_simp; done) | (go_simp; rfl)) ?_
      exact hK _ _ ⟨hs, hV.put (by show List.Nodup [0, 1, 2, 3, 4, 5, 6, 7, 8, 9, 10, 11, 12, 13, 14]; decide) (by show List.Nodup [98, 99, 100, 101, 102, 103, 104, 105, 106, 107, 108, 109, 110, 111, 112]; decide) 1 rfl (by decide) (by rw [hs]; decide), G, hA.val0 (by show ¬ 1 ∈ [15, 16]; decide) (by show ¬ 1 ∈ [17, 18]; decide) (by show ¬ 99 ∈ [13, 14]; decide)⟩
    | 2, ho =>
      simp only [List.getElem?_toArray, List.getElem?_cons_zero, List.getElem?_cons_succ, Option.some.injEq] at ho
      subst ho
      have E9 := e9
      refine stp_move rfl (by first | exact .inl rfl | exact .inr rfl) ?_
      rw [E9]
      exact hK _ _ ⟨hs, hV.put (by show List.Nodup [0, 1, 2, 3, 4, 5, 6, 7, 8, 9, 10, 11, 12, 13, 14]; decide) (by show List.Nodup [98, 99, 100, 101, 102, 103, 104, 105, 106, 107, 108, 109, 110, 111, 112]; decide) 2 rfl (by decide) (by rw [hs]; decide), G, hA.val0 (by show ¬ 2 ∈ [15, 16]; decide) (by show ¬ 2 ∈ [17, 18]; decide) (by show ¬ 100 ∈ [13, 14]; decide)⟩
    | 3, ho =>
      simp only [List.getElem?_toArray, List.getElem?_cons_zero, List.getElem?_cons_succ, Option.some.injEq] at ho
      subst ho
      have E100 := hV.get 2 rfl (hdep 2 (by decide))
      refine stp1 (v := .pointer (some al)) (w' := W) (.tmp 100) _ rfl E100 (fun ρ hc hρ => by clear hV hK hA; first | (go_simp; done) | (go_simp; rfl)) ?_
      exact hK _ _ ⟨hs, hV.put (by show List.Nodup [0, 1, 2, 3, 4, 5, 6, 7, 8, 9, 10, 11, 12, 13, 14]; decide) (by show List.Nodup [98, 99, 100, 101, 102, 103, 104, 105, 106, 107, 108, 109, 110, 111, 112]; decide) 3 rfl (by decide) (by rw [hs]; decide), G, hA.val0 (by show ¬ 3 ∈ [15, 16]; decide) (by show ¬ 3 ∈ [17, 18]; decide) (by show ¬ 101 ∈ [13, 14]; decide)⟩
    | 4, ho =>
      simp only [List.getElem?_toArray, List.getElem?_cons_zero, List.getElem?_cons_succ, Option.some.injEq] at ho
      subst ho
      have E101 := hV.get 3 rfl (hdep 3 (by decide))
      have hcl := (hA.below.cell (World.block_lt_of_cell? _ _ hl0)).trans hl0
      refine stp1 (v := .int .i64 (x : Int)) (w' := W) (.tmp 101) _ rfl E101 (fun ρ hc hρ => by clear hV hK hA; first | (go_simp; done) | (go_simp; rfl)) ?_
      exact hK _ _ ⟨hs, hV.put (by show List.Nodup [0, 1, 2, 3, 4, 5, 6, 7, 8, 9, 10, 11, 12, 13, 14]; decide) (by show List.Nodup [98, 99, 100, 101, 102, 103, 104, 105, 106, 107, 108, 109, 110, 111, 112]; decide) 4 rfl (by decide) (by rw [hs]; decide), G, hA.val0 (by show ¬ 4 ∈ [15, 16]; decide) (by show ¬ 4 ∈ [17, 18]; decide) (by show ¬ 102 ∈ [13, 14]; decide)⟩
    | 5, ho =>
      simp only [List.getElem?_toArray, List.getElem?_cons_zero, List.getElem?_cons_succ, Option.some.injEq] at ho
      subst ho
      have E99 := hV.get 1 rfl (hdep 1 (by decide))
      have E102 := hV.get 4 rfl (hdep 4 (by decide))
      refine stp2 (v := .pointer (some (ap.add (x * 4)))) (w' := W) (.tmp 99) _ (.tmp 102) _ rfl E99 E102 (fun ρ hc hρ hρ2 => by clear hV hK hA; (first | (go_simp; done) | (go_simp; rfl))) ?_
      exact hK _ _ ⟨hs, hV.put (by show List.Nodup [0, 1, 2, 3, 4, 5, 6, 7, 8, 9, 10, 11, 12, 13, 14]; decide) (by show List.Nodup [98, 99, 100, 101, 102, 103, 104, 105, 106, 107, 108, 109, 110, 111, 112]; decide) 5 rfl (by decide) (by rw [hs]; decide), G, hA.val0 (by show ¬ 5 ∈ [15, 16]; decide) (by show ¬ 5 ∈ [17, 18]; decide) (by show ¬ 103 ∈ [13, 14]; decide)⟩
    | 6, ho =>
      simp only [List.getElem?_toArray, List.getElem?_cons_zero, List.getElem?_cons_succ, Option.some.injEq] at ho
      subst ho
      have E103 := hV.get 5 rfl (hdep 5 (by decide))
      refine stp_loadany (cs := p1.cells.toList) rfl rfl E103 (fun j v hj => (hA.below.cell (World.block_lt_of_cell? _ _ (hp1 j v hj))).trans (hp1 j v hj)) Try.underlying104 rfl (by kernel_rfl) ?_
      exact hK _ _ ⟨hs, hV.put (by show List.Nodup [0, 1, 2, 3, 4, 5, 6, 7, 8, 9, 10, 11, 12, 13, 14]; decide) (by show List.Nodup [98, 99, 100, 101, 102, 103, 104, 105, 106, 107, 108, 109, 110, 111, 112]; decide) 6 rfl (by decide) (by rw [hs]; decide), G, hA.val0 (by show ¬ 6 ∈ [15, 16]; decide) (by show ¬ 6 ∈ [17, 18]; decide) (by show ¬ 104 ∈ [13, 14]; decide)⟩
    | 7, ho =>
      simp only [List.getElem?_toArray, List.getElem?_cons_zero, List.getElem?_cons_succ, Option.some.injEq] at ho
      subst ho
      have E4 := e4
      refine stp1 (v := .pointer (some ⟨g4, 0, none⟩)) (w' := W) (.tmp 4) _ rfl E4 (fun ρ hc hρ => by clear hV hK hA; first | (go_simp; done) | (go_simp; rfl)) ?_
      exact hK _ _ ⟨hs, hV.put (by show List.Nodup [0, 1, 2, 3, 4, 5, 6, 7, 8, 9, 10, 11, 12, 13, 14]; decide) (by show List.Nodup [98, 99, 100, 101, 102, 103, 104, 105, 106, 107, 108, 109, 110, 111, 112]; decide) 7 rfl (by decide) (by rw [hs]; decide), G, hA.val0 (by show ¬ 7 ∈ [15, 16]; decide) (by show ¬ 7 ∈ [17, 18]; decide) (by show ¬ 105 ∈ [13, 14]; decide)⟩
    | 8, ho =>
      simp only [List.getElem?_toArray, List.getElem?_cons_zero, List.getElem?_cons_succ, Option.some.injEq] at ho
      subst ho
      have E105 := hV.get 7 rfl (hdep 7 (by decide))
      have hcl := (hA.below.cell (World.block_lt_of_cell? _ _ h4)).trans h4
      refine stp1 (v := .slice (some ap) np cp) (w' := W) (.tmp 105) _ rfl E105 (fun ρ hc hρ => by clear hV hK hA; first | (go_simp; done) | (go_simp; rfl)) ?_
      exact hK _ _ ⟨hs, hV.put (by show List.Nodup [0, 1, 2, 3, 4, 5, 6, 7, 8, 9, 10, 11, 12, 13, 14]; decide) (by show List.Nodup [98, 99, 100, 101, 102, 103, 104, 105, 106, 107, 108, 109, 110, 111, 112]; decide) 8 rfl (by decide) (by rw [hs]; decide), G, hA.val0 (by show ¬ 8 ∈ [15, 16]; decide) (by show ¬ 8 ∈ [17, 18]; decide) (by show ¬ 106 ∈ [13, 14]; decide)⟩
    | 9, ho =>
      simp only [List.getElem?_toArray, List.getElem?_cons_zero, List.getElem?_cons_succ, Option.some.injEq] at ho
      subst ho
      have E9 := e9
      refine stp_move rfl (by first | exact .inl rfl | exact .inr rfl) ?_
      rw [E9]
      exact hK _ _ ⟨hs, hV.put (by show List.Nodup [0, 1, 2, 3, 4, 5, 6, 7, 8, 9, 10, 11, 12, 13, 14]; decide) (by show List.Nodup [98, 99, 100, 101, 102, 103, 104, 105, 106, 107, 108, 109, 110, 111, 112]; decide) 9 rfl (by decide) (by rw [hs]; decide), G, hA.val0 (by show ¬ 9 ∈ [15, 16]; decide) (by show ¬ 9 ∈ [17, 18]; decide) (by show ¬ 107 ∈ [13, 14]; decide)⟩
    | 10, ho =>
      simp only [List.getElem?_toArray, List.getElem?_cons_zero, List.getElem?_cons_succ, Option.some.injEq] at ho
      subst ho
      have E12 := e12
      refine stp_move rfl (by first | exact .inl rfl | exact .inr rfl) ?_
      rw [E12]
      exact hK _ _ ⟨hs, hV.put (by show List.Nodup [0, 1, 2, 3, 4, 5, 6, 7, 8, 9, 10, 11, 12, 13, 14]; decide) (by show List.Nodup [98, 99, 100, 101, 102, 103, 104, 105, 106, 107, 108, 109, 110, 111, 112]; decide) 10 rfl (by decide) (by rw [hs]; decide), G, hA.val0 (by show ¬ 10 ∈ [15, 16]; decide) (by show ¬ 10 ∈ [17, 18]; decide) (by show ¬ 108 ∈ [13, 14]; decide)⟩
    | 11, ho =>
      simp only [List.getElem?_toArray, List.getElem?_cons_zero, List.getElem?_cons_succ, Option.some.injEq] at ho
      subst ho
      have E107 := hV.get 9 rfl (hdep 9 (by decide))
      have E108 := hV.get 10 rfl (hdep 10 (by decide))
      refine stp2 (v := .pointer (some (al.add i))) (w' := W) (.tmp 107) _ (.tmp 108) _ rfl E107 E108 (fun ρ hc hρ hρ2 => by clear hV hK hA; (first | (go_simp; done) | (go_simp; rfl))) ?_
      exact hK _ _ ⟨hs, hV.put (by show List.Nodup [0, 1, 2, 3, 4, 5, 6, 7, 8, 9, 10, 11, 12, 13, 14]; decide) (by show List.Nodup [98, 99, 100, 101, 102, 103, 104, 105, 106, 107, 108, 109, 110, 111, 112]; decide) 11 rfl (by decide) (by rw [hs]; decide), G, hA.val0 (by show ¬ 11 ∈ [15, 16]; decide) (by show ¬ 11 ∈ [17, 18]; decide) (by show ¬ 109 ∈ [13, 14]; decide)⟩
    | 12, ho =>
      simp only [List.getElem?_toArray, List.getElem?_cons_zero, List.getElem?_cons_succ, Option.some.injEq] at ho
      subst ho
      have E109 := hV.get 11 rfl (hdep 11 (by decide))
      have hcl := (hA.below.cell (World.block_lt_of_cell? _ _ hli)).trans hli
      refine stp1 (v := .int .i64 (y : Int)) (w' := W) (.tmp 109) _ rfl E109 (fun ρ hc hρ => by clear hV hK hA; first | (go_simp; done) | (go_simp; rfl)) ?_
      exact hK _ _ ⟨hs, hV.put (by show List.Nodup [0, 1, 2, 3, 4, 5, 6, 7, 8, 9, 10, 11, 12, 13, 14]; decide) (by show List.Nodup [98, 99, 100, 101, 102, 103, 104, 105, 106, 107, 108, 109, 110, 111, 112]; decide) 12 rfl (by decide) (by rw [hs]; decide), G, hA.val0 (by show ¬ 12 ∈ [15, 16]; decide) (by show ¬ 12 ∈ [17, 18]; decide) (by show ¬ 110 ∈ [13, 14]; decide)⟩
    | 13, ho =>
      simp only [List.getElem?_toArray, List.getElem?_cons_zero, List.getElem?_cons_succ, Option.some.injEq] at ho
      subst ho
      have E106 := hV.get 8 rfl (hdep 8 (by decide))
      have E110 := hV.get 12 rfl (hdep 12 (by decide))
      refine stp2 (v := .pointer (some (ap.add (y * 4)))) (w' := W) (.tmp 106) _ (.tmp 110) _ rfl E106 E110 (fun ρ hc hρ hρ2 => by clear hV hK hA; (first | (go_simp; done) | (go_simp; rfl))) ?_
      exact hK _ _ ⟨hs, hV.put (by show List.Nodup [0, 1, 2, 3, 4, 5, 6, 7, 8, 9, 10, 11, 12, 13, 14]; decide) (by show List.Nodup [98, 99, 100, 101, 102, 103, 104, 105, 106, 107, 108, 109, 110, 111, 112]; decide) 13 rfl (by decide) (by rw [hs]; decide), G, hA.val0 (by show ¬ 13 ∈ [15, 16]; decide) (by show ¬ 13 ∈ [17, 18]; decide) (by show ¬ 111 ∈ [13, 14]; decide)⟩
    | 14, ho =>
      simp only [List.getElem?_toArray, List.getElem?_cons_zero, List.getElem?_cons_succ, Option.some.injEq] at ho
      subst ho
      have E111 := hV.get 13 rfl (hdep 13 (by decide))
      refine stp_loadany (cs := p2.cells.toList) rfl rfl E111 (fun j v hj => (hA.below.cell (World.block_lt_of_cell? _ _ (hp2 j v hj))).trans (hp2 j v hj)) Try.underlying104 rfl (by kernel_rfl) ?_
      exact hK _ _ ⟨hs, hV.put (by show List.Nodup [0, 1, 2, 3, 4, 5, 6, 7, 8, 9, 10, 11, 12, 13, 14]; decide) (by show List.Nodup [98, 99, 100, 101, 102, 103, 104, 105, 106, 107, 108, 109, 110, 111, 112]; decide) 14 rfl (by decide) (by rw [hs]; decide), G, hA.val0 (by show ¬ 14 ∈ [15, 16]; decide) (by show ¬ 14 ∈ [17, 18]; decide) (by show ¬ 112 ∈ [13, 14]; decide)⟩
    | 15, ho =>
      simp only [List.getElem?_toArray, List.getElem?_cons_zero, List.getElem?_cons_succ, Option.some.injEq] at ho
      subst ho
      refine stp (v := .pointer (some ⟨W.heap.size, 0, none⟩)) (w' := W.alloc (.cells #[.string ByteArray.empty, .bool false, .int .i64 0, .int .i64 0] 104 (0, 0))) rfl (by clear hV hK hA; first | (go_simp; done) | (go_simp; rfl)) ?_
      exact hK _ _ ⟨hs, hV.other (by show ¬ 15 ∈ [0, 1, 2, 3, 4, 5, 6, 7, 8, 9, 10, 11, 12, 13, 14]; decide) (by show ¬ 13 ∈ [98, 99, 100, 101, 102, 103, 104, 105, 106, 107, 108, 109, 110, 111, 112]; decide) (by decide), _, hA.alloc (by show List.Nodup [15, 16]; decide) (by show List.Nodup [13, 14]; decide) (List.mem_cons_self ..) (by show ¬ 15 ∈ [17, 18]; decide) hL (by rw [hV.size, hs]; show 13 < 195; decide)⟩
    | 16, ho =>
      simp only [List.getElem?_toArray, List.getElem?_cons_zero, List.getElem?_cons_succ, Option.some.injEq] at ho
      subst ho
      refine stp (v := .pointer (some ⟨W.heap.size, 0, none⟩)) (w' := W.alloc (.cells #[.string ByteArray.empty, .bool false, .int .i64 0, .int .i64 0] 104 (0, 0))) rfl (by clear hV hK hA; first | (go_simp; done) | (go_simp; rfl)) ?_
      exact hK _ _ ⟨hs, hV.other (by show ¬ 16 ∈ [0, 1, 2, 3, 4, 5, 6, 7, 8, 9, 10, 11, 12, 13, 14]; decide) (by show ¬ 14 ∈ [98, 99, 100, 101, 102, 103, 104, 105, 106, 107, 108, 109, 110, 111, 112]; decide) (by decide), _, hA.alloc (by show List.Nodup [15, 16]; decide) (by show List.Nodup [13, 14]; decide) (List.mem_cons_of_mem _ (List.mem_cons_self ..)) (by show ¬ 16 ∈ [17, 18]; decide) hL (by rw [hV.size, hs]; show 14 < 195; decide)⟩
    | 17, ho =>
      simp only [List.getElem?_toArray, List.getElem?_cons_zero, List.getElem?_cons_succ, Option.some.injEq] at ho
      subst ho
      have E104 := hV.get 6 rfl (hdep 6 (by decide))
      have hia := hdep 15 (by decide)
      have hrw := hA.row _ (List.mem_cons_self ..) hia
      refine ⟨fun _ => wp_store_row 104 _ _ rfl (G 15) p1.cells hrw.1 E104 104 _ (by have h3 := hrw.2.2; simp only [] at h3; rw [hL] at h3; exact h3) (by kernel_rfl) (by rfl) (by simp [Value.oneCell', PoolV.cells, QuoteV.cells]) ?_, fun h2 => absurd h2 (by simp [Region.wanted])⟩
      exact hK _ _ ⟨hs, hV.skip (by show ¬ 17 ∈ [0, 1, 2, 3, 4, 5, 6, 7, 8, 9, 10, 11, 12, 13, 14]; decide), G, hA.store (by show List.Nodup [15, 16]; decide) (by show List.Nodup [17, 18]; decide) (List.mem_cons_self ..) (by show ¬ 17 ∈ [15, 16]; decide) hia hL⟩
    | 18, ho =>
      simp only [List.getElem?_toArray, List.getElem?_cons_zero, List.getElem?_cons_succ, Option.some.injEq] at ho
      subst ho
      have E112 := hV.get 14 rfl (hdep 14 (by decide))
      have hia := hdep 16 (by decide)
      have hrw := hA.row _ (List.mem_cons_of_mem _ (List.mem_cons_self ..)) hia
      refine ⟨fun _ => wp_store_row 104 _ _ rfl (G 16) p2.cells hrw.1 E112 104 _ (by have h3 := hrw.2.2; simp only [] at h3; rw [hL] at h3; exact h3) (by kernel_rfl) (by rfl) (by simp [Value.oneCell', PoolV.cells, QuoteV.cells]) ?_, fun h2 => absurd h2 (by simp [Region.wanted])⟩
      exact hK _ _ ⟨hs, hV.skip (by show ¬ 18 ∈ [0, 1, 2, 3, 4, 5, 6, 7, 8, 9, 10, 11, 12, 13, 14]; decide), G, hA.store (by show List.Nodup [15, 16]; decide) (by show List.Nodup [17, 18]; decide) (List.mem_cons_of_mem _ (List.mem_cons_self ..)) (by show ¬ 18 ∈ [15, 16]; decide) hia hL⟩
    | i' + 19, ho => simp at ho
  · intro L a W hI hall
    obtain ⟨hs', hV, G, hA⟩ := hI
    have ha : a = setA a0 [(98, a.eval (.tmp 98)), (99, a.eval (.tmp 99)), (100, a.eval (.tmp 100)), (101, a.eval (.tmp 101)), (102, a.eval (.tmp 102)), (103, a.eval (.tmp 103)), (104, a.eval (.tmp 104)), (105, a.eval (.tmp 105)), (106, a.eval (.tmp 106)), (107, a.eval (.tmp 107)), (108, a.eval (.tmp 108)), (109, a.eval (.tmp 109)), (110, a.eval (.tmp 110)), (111, a.eval (.tmp 111)), (112, a.eval (.tmp 112)), (13, a.eval (.tmp 13)), (14, a.eval (.tmp 14))] := hV.act (fun k hk => by rw [hs]; simp at hk; omega)
    rw [hV.get 0 rfl (hall 0 (by decide))] at ha
    rw [hV.get 1 rfl (hall 1 (by decide))] at ha
    rw [hV.get 2 rfl (hall 2 (by decide))] at ha
    rw [hV.get 3 rfl (hall 3 (by decide))] at ha
    rw [hV.get 4 rfl (hall 4 (by decide))] at ha
    rw [hV.get 5 rfl (hall 5 (by decide))] at ha
    rw [hV.get 6 rfl (hall 6 (by decide))] at ha
    rw [hV.get 7 rfl (hall 7 (by decide))] at ha
    rw [hV.get 8 rfl (hall 8 (by decide))] at ha
    rw [hV.get 9 rfl (hall 9 (by decide))] at ha
    rw [hV.get 10 rfl (hall 10 (by decide))] at ha
    rw [hV.get 11 rfl (hall 11 (by decide))] at ha
    rw [hV.get 12 rfl (hall 12 (by decide))] at ha
    rw [hV.get 13 rfl (hall 13 (by decide))] at ha
    rw [hV.get 14 rfl (hall 14 (by decide))] at ha
    obtain ⟨h1_0, h2_0, h3_0⟩ := hA.row _ (List.mem_cons_self ..) (hall 15 (by decide))
    simp only [] at h1_0 h2_0 h3_0
    rw [h1_0] at ha
    rw [hall 17 (by decide)] at h3_0
    obtain ⟨h1_1, h2_1, h3_1⟩ := hA.row _ (List.mem_cons_of_mem _ (List.mem_cons_self ..)) (hall 16 (by decide))
    simp only [] at h1_1 h2_1 h3_1
    rw [h1_1] at ha
    rw [hall 18 (by decide)] at h3_1
    rw [ha]
    exact hQ W _ _ hA.below h2_0 h3_0 h2_1 h3_1 (hA.inj _ (List.mem_cons_of_mem _ (List.mem_cons_self ..)) _ (List.mem_cons_self ..) (by show 16 ≠ 15; decide) (hall 16 (by decide)) (hall 15 (by decide)))
set_option maxHeartbeats 4000000 in
set_option maxRecDepth 100000 in
theorem first_reg15 (aq al : Addr) (nq cq n cl i x y : Nat) (q1 q2 : QuoteV) (hx1 : x < nq) (hx2 : (x : Int) < (nq : Int)) (hx0 : 0 ≤ (x : Int)) (hy1 : y < nq) (hy2 : (y : Int) < (nq : Int)) (hy0 : 0 ≤ (y : Int)) (hi1 : i < n) (hi2 : (i : Int) < (n : Int)) (hi0 : 0 ≤ (i : Int)) (hn1 : 0 < n) (hn2 : (0 : Int) < (n : Int)) {Q : Exit → Act → World → Prop} (a0 : Act) (W0 : World) (hs : a0.tmps.size = 195) (hdf : a0.defers = []) (f1 : a0.eval (.tmp 1) = .slice (some aq) nq cq) (f9 : a0.eval (.tmp 9) = .slice (some al) n cl) (f12 : a0.eval (.tmp 12) = .int .i64 (i : Int)) (hl0 : W0.cell? al = some (.int .i64 (x : Int))) (hli : W0.cell? (al.add i) = some (.int .i64 (y : Int))) (hq1 : ∀ j v, q1.cells.toList[j]? = some v → W0.cell? ((aq.add (x * 3)).add j) = some v) (hq2 : ∀ j v, q2.cells.toList[j]? = some v → W0.cell? ((aq.add (y * 3)).add j) = some v) (hQ : ∀ (W : World) (g0 g1 : Nat), Below W0.heap.size W0 W → W0.heap.size ≤ g0 → W.heap[g0]? = some (.cells q1.cells 106 (0, 0)) → W0.heap.size ≤ g1 → W.heap[g1]? = some (.cells q2.cells 106 (0, 0)) → g1 ≠ g0 → Q .normal (setA a0 [(113, .slice (some aq) nq cq), (114, .slice (some al) n cl), (115, .pointer (some al)), (116, .int .i64 (x : Int)), (117, .pointer (some (aq.add (x * 3)))), (118, .agg q1.cells), (119, .slice (some aq) nq cq), (120, .slice (some al) n cl), (121, .int .i64 (i : Int)), (122, .pointer (some (al.add i))), (123, .int .i64 (y : Int)), (124, .pointer (some (aq.add (y * 3)))), (125, .agg q2.cells), (15, .pointer (some ⟨g0, 0, none⟩)), (16, .pointer (some ⟨g1, 0, none⟩))]) W) : (Code.region 15 #[{ dst := some 113, op := Op.move (Operand.tmp 1), type := 97, pos := "law.go:62", after := #[], guard := none }, { dst := some 114, op := Op.move (Operand.tmp 9), type := 99, pos := "law.go:62", after := #[], guard := none }, { dst := some 115, op := Op.indexAddr 99 (Operand.tmp 114) (Operand.const (Value.int IntKind.i64 0)), type := 0, pos := "law.go:62", after := #[{ on := 1, ground := Ground.data }], guard := none }, { dst := some 116, op := Op.load 3 (Operand.tmp 115), type := 3, pos := "law.go:62", after := #[{ on := 2, ground := Ground.data }], guard := none }, { dst := some 117, op := Op.indexAddr 97 (Operand.tmp 113) (Operand.tmp 116), type := 0, pos := "law.go:62", after := #[{ on := 0, ground := Ground.data }, { on := 3, ground := Ground.data }], guard := none }, { dst := some 118, op := Op.load 106 (Operand.tmp 117), type := 106, pos := "law.go:62", after := #[{ on := 4, ground := Ground.data }], guard := none }, { dst := some 119, op := Op.move (Operand.tmp 1), type := 97, pos := "law.go:62", after := #[{ on := 15, ground := Ground.gcOnly Departure.lateStores }], guard := none }, { dst := some 120, op := Op.move (Operand.tmp 9), type := 99, pos := "law.go:62", after := #[{ on := 15, ground := Ground.gcOnly Departure.lateStores }], guard := none }, { dst := some 121, op := Op.move (Operand.tmp 12), type := 3, pos := "law.go:62", after := #[{ on := 15, ground := Ground.gcOnly Departure.lateStores }], guard := none }, { dst := some 122, op := Op.indexAddr 99 (Operand.tmp 120) (Operand.tmp 121), type := 0, pos := "law.go:62", after := #[{ on := 7, ground := Ground.data }, { on := 8, ground := Ground.data }, { on := 15, ground := Ground.gcOnly Departure.lateStores }], guard := none }, { dst := some 123, op := Op.load 3 (Operand.tmp 122), type := 3, pos := "law.go:62", after := #[{ on := 9, ground := Ground.data }, { on := 15, ground := Ground.gcOnly Departure.lateStores }], guard := none }, { dst := some 124, op := Op.indexAddr 97 (Operand.tmp 119) (Operand.tmp 123), type := 0, pos := "law.go:62", after := #[{ on := 6, ground := Ground.data }, { on := 10, ground := Ground.data }, { on := 15, ground := Ground.gcOnly Departure.lateStores }], guard := none }, { dst := some 125, op := Op.load 106 (Operand.tmp 124), type := 106, pos := "law.go:62", after := #[{ on := 11, ground := Ground.data }, { on := 15, ground := Ground.gcOnly Departure.lateStores }], guard := none }, { dst := some 15, op := Op.alloc 106, type := 0, pos := "law.go:62", after := #[], guard := none }, { dst := some 16, op := Op.alloc 106, type := 0, pos := "law.go:62", after := #[], guard := none }, { dst := none, op := Op.store 106 (Operand.tmp 15) (Operand.tmp 118), type := 0, pos := "law.go:62", after := #[{ on := 13, ground := Ground.data }, { on := 5, ground := Ground.data }, { on := 0, ground := Ground.phase }, { on := 1, ground := Ground.phase }, { on := 2, ground := Ground.phase }, { on := 3, ground := Ground.phase }, { on := 4, ground := Ground.phase }, { on := 5, ground := Ground.phase }, { on := 6, ground := Ground.textOnly Departure.lateStores }, { on := 7, ground := Ground.textOnly Departure.lateStores }, { on := 8, ground := Ground.textOnly Departure.lateStores }, { on := 9, ground := Ground.textOnly Departure.lateStores }, { on := 10, ground := Ground.textOnly Departure.lateStores }, { on := 11, ground := Ground.textOnly Departure.lateStores }, { on := 12, ground := Ground.textOnly Departure.lateStores }, { on := 13, ground := Ground.phase }, { on := 14, ground := Ground.phase }], guard := none }, { dst := none, op := Op.store 106 (Operand.tmp 16) (Operand.tmp 125), type := 0, pos := "law.go:62", after := #[{ on := 14, ground := Ground.data }, { on := 12, ground := Ground.data }, { on := 15, ground := Ground.chain }, { on := 0, ground := Ground.phase }, { on := 1, ground := Ground.phase }, { on := 2, ground := Ground.phase }, { on := 3, ground := Ground.phase }, { on := 4, ground := Ground.phase }, { on := 5, ground := Ground.phase }, { on := 6, ground := Ground.phase }, { on := 7, ground := Ground.phase }, { on := 8, ground := Ground.phase }, { on := 9, ground := Ground.phase }, { on := 10, ground := Ground.phase }, { on := 11, ground := Ground.phase }, { on := 12, ground := Ground.phase }, { on := 13, ground := Ground.phase }, { on := 14, ground := Ground.phase }, { on := 15, ground := Ground.phase }], guard := none }] true).wp Try.prog Q a0 W0 := by
  refine wp_region_inv_at (by kernel_rfl) (fun a0 L a W => a0.tmps.size = 195 ∧ VInv [(0, 113, .slice (some aq) nq cq), (1, 114, .slice (some al) n cl), (2, 115, .pointer (some al)), (3, 116, .int .i64 (x : Int)), (4, 117, .pointer (some (aq.add (x * 3)))), (5, 118, .agg q1.cells), (6, 119, .slice (some aq) nq cq), (7, 120, .slice (some al) n cl), (8, 121, .int .i64 (i : Int)), (9, 122, .pointer (some (al.add i))), (10, 123, .int .i64 (y : Int)), (11, 124, .pointer (some (aq.add (y * 3)))), (12, 125, .agg q2.cells)] [113, 114, 115, 116, 117, 118, 119, 120, 121, 122, 123, 124, 125, 15, 16] a0 L a ∧ ∃ G : Nat → Nat, AInvs W0 [⟨13, 15, 15, #[.int .i64 0, .int .i64 0, .int .u64 0], q1.cells, 106⟩, ⟨14, 16, 16, #[.int .i64 0, .int .i64 0, .int .u64 0], q2.cells, 106⟩] L a W G) (by kernel_rfl) ⟨hs, VInv.start _ _ _, (fun _ => 0), AInvs.start _ (below_drew (Below.refl _ _))⟩ ?_ ?_
  · intro L i' o a W K hI ho hL hdep0 hK
    obtain ⟨hs, hV, G, hA⟩ := hI
    have e1 := (hV.keep 1 (by decide)).trans f1
    have e9 := (hV.keep 9 (by decide)).trans f9
    have e12 := (hV.keep 12 (by decide)).trans f12
    have hdep := deps o hdep0
    clear hdep0
    match i', ho with
    | 0, ho =>
      simp only [List.getElem?_toArray, List.getElem?_cons_zero, List.getElem?_cons_succ, Option.some.injEq] at ho
      subst ho
      have E1 := e1
      refine stp_move rfl (by first | exact .inl rfl | exact .inr rfl) ?_
      rw [E1]
      exact hK _ _ ⟨hs, hV.put (by show List.Nodup [0, 1, 2, 3, 4, 5, 6, 7, 8, 9, 10, 11, 12]; decide) (by show List.Nodup [113, 114, 115, 116, 117, 118, 119, 120, 121, 122, 123, 124, 125]; decide) 0 rfl (by decide) (by rw [hs]; decide), G, hA.val0 (by show ¬ 0 ∈ [13, 14]; decide) (by show ¬ 0 ∈ [15, 16]; decide) (by show ¬ 113 ∈ [15, 16]; decide)⟩
    | 1, ho =>
      simp only [List.getElem?_toArray, List.getElem?_cons_zero, List.getElem?_cons_succ, Option.some.injEq] at ho
      subst ho
      have E9 := e9
      refine stp_move rfl (by first | exact .inl rfl | exact .inr rfl) ?_
      rw [E9]
      exact hK _ _ ⟨hs, hV.put (by show List.Nodup [0, 1, 2, 3, 4, 5, 6, 7, 8, 9, 10, 11, 12]; decide) (by show List.Nodup [113, 114, 115, 116, 117, 118, 119, 120, 121, 122, 123, 124, 125]; decide) 1 rfl (by decide) (by rw [hs]; decide), G, hA.val0 (by show ¬ 1 ∈ [13, 14]; decide) (by show ¬ 1 ∈ [15, 16]; decide) (by show ¬ 114 ∈ [15, 16]; decide)⟩
    | 2, ho =>
      simp only [List.getElem?_toArray, List.getElem?_cons_zero, List.getElem?_cons_succ, Option.some.injEq] at ho
      subst ho
      have E114 := hV.get 1 rfl (hdep 1 (by decide))
      refine stp1 (v := .pointer (some al)) (w' := W) (.tmp 114) _ rfl E114 (fun ρ hc hρ => by clear hV hK hA; first | (go_simp; done) | (go_simp; rfl)) ?_
      exact hK _ _ ⟨hs, hV.put (by show List.Nodup [0, 1, 2, 3, 4, 5, 6, 7, 8, 9, 10, 11, 12]; decide) (by show List.Nodup [113, 114, 115, 116, 117, 118, 119, 120, 121, 122, 123, 124, 125]; decide) 2 rfl (by decide) (by rw [hs]; decide), G, hA.val0 (by show ¬ 2 ∈ [13, 14]; decide) (by show ¬ 2 ∈ [15, 16]; decide) (by show ¬ 115 ∈ [15, 16]; decide)⟩
    | 3, ho =>
      simp only [List.getElem?_toArray, List.getElem?_cons_zero, List.getElem?_cons_succ, Option.some.injEq] at ho
      subst ho
      have E115 := hV.get 2 rfl (hdep 2 (by decide))
      have hcl := (hA.below.cell (World.block_lt_of_cell? _ _ hl0)).trans hl0
      refine stp1 (v := .int .i64 (x : Int)) (w' := W) (.tmp 115) _ rfl E115 (fun ρ hc hρ => by clear hV hK hA; first | (go_simp; done) | (go_simp; rfl)) ?_
      exact hK _ _ ⟨hs, hV.put (by show List.Nodup [0, 1, 2, 3, 4, 5, 6, 7, 8, 9, 10, 11, 12]; decide) (by show List.Nodup [113, 114, 115, 116, 117, 118, 119, 120, 121, 122, 123, 124, 125]; decide) 3 rfl (by decide) (by rw [hs]; decide), G, hA.val0 (by show ¬ 3 ∈ [13, 14]; decide) (by show ¬ 3 ∈ [15, 16]; decide) (by show ¬ 116 ∈ [15, 16]; decide)⟩
    | 4, ho =>
      simp only [List.getElem?_toArray, List.getElem?_cons_zero, List.getElem?_cons_succ, Option.some.injEq] at ho
      subst ho
      have E113 := hV.get 0 rfl (hdep 0 (by decide))
      have E116 := hV.get 3 rfl (hdep 3 (by decide))
      refine stp2 (v := .pointer (some (aq.add (x * 3)))) (w' := W) (.tmp 113) _ (.tmp 116) _ rfl E113 E116 (fun ρ hc hρ hρ2 => by clear hV hK hA; (first | (go_simp; done) | (go_simp; rfl))) ?_
      exact hK _ _ ⟨hs, hV.put (by show List.Nodup [0, 1, 2, 3, 4, 5, 6, 7, 8, 9, 10, 11, 12]; decide) (by show List.Nodup [113, 114, 115, 116, 117, 118, 119, 120, 121, 122, 123, 124, 125]; decide) 4 rfl (by decide) (by rw [hs]; decide), G, hA.val0 (by show ¬ 4 ∈ [13, 14]; decide) (by show ¬ 4 ∈ [15, 16]; decide) (by show ¬ 117 ∈ [15, 16]; decide)⟩
    | 5, ho =>
      simp only [List.getElem?_toArray, List.getElem?_cons_zero, List.getElem?_cons_succ, Option.some.injEq] at ho
      subst ho
      have E117 := hV.get 4 rfl (hdep 4 (by decide))
      refine stp_loadany (cs := q1.cells.toList) rfl rfl E117 (fun j v hj => (hA.below.cell (World.block_lt_of_cell? _ _ (hq1 j v hj))).trans (hq1 j v hj)) Try.underlying106 rfl (by kernel_rfl) ?_
      exact hK _ _ ⟨hs, hV.put (by show List.Nodup [0, 1, 2, 3, 4, 5, 6, 7, 8, 9, 10, 11, 12]; decide) (by show List.Nodup [113, 114, 115, 116, 117, 118, 119, 120, 121, 122, 123, 124, 125]; decide) 5 rfl (by decide) (by rw [hs]; decide), G, hA.val0 (by show ¬ 5 ∈ [13, 14]; decide) (by show ¬ 5 ∈ [15, 16]; decide) (by show ¬ 118 ∈ [15, 16]; decide)⟩
    | 6, ho =>
      simp only [List.getElem?_toArray, List.getElem?_cons_zero, List.getElem?_cons_succ, Option.some.injEq] at ho
      subst ho
      have E1 := e1
      refine stp_move rfl (by first | exact .inl rfl | exact .inr rfl) ?_
      rw [E1]
      exact hK _ _ ⟨hs, hV.put (by show List.Nodup [0, 1, 2, 3, 4, 5, 6, 7, 8, 9, 10, 11, 12]; decide) (by show List.Nodup [113, 114, 115, 116, 117, 118, 119, 120, 121, 122, 123, 124, 125]; decide) 6 rfl (by decide) (by rw [hs]; decide), G, hA.val0 (by show ¬ 6 ∈ [13, 14]; decide) (by show ¬ 6 ∈ [15, 16]; decide) (by show ¬ 119 ∈ [15, 16]; decide)⟩
    | 7, ho =>
      simp only [List.getElem?_toArray, List.getElem?_cons_zero, List.getElem?_cons_succ, Option.some.injEq] at ho
      subst ho
      have E9 := e9
      refine stp_move rfl (by first | exact .inl rfl | exact .inr rfl) ?_
      rw [E9]
      exact hK _ _ ⟨hs, hV.put (by show List.Nodup [0, 1, 2, 3, 4, 5, 6, 7, 8, 9, 10, 11, 12]; decide) (by show List.Nodup [113, 114, 115, 116, 117, 118, 119, 120, 121, 122, 123, 124, 125]; decide) 7 rfl (by decide) (by rw [hs]; decide), G, hA.val0 (by show ¬ 7 ∈ [13, 14]; decide) (by show ¬ 7 ∈ [15, 16]; decide) (by show ¬ 120 ∈ [15, 16]; decide)⟩
    | 8, ho =>
      simp only [List.getElem?_toArray, List.getElem?_cons_zero, List.getElem?_cons_succ, Option.some.injEq] at ho
      subst ho
      have E12 := e12
      refine stp_move rfl (by first | exact .inl rfl | exact .inr rfl) ?_
      rw [E12]
      exact hK _ _ ⟨hs, hV.put (by show List.Nodup [0, 1, 2, 3, 4, 5, 6, 7, 8, 9, 10, 11, 12]; decide) (by show List.Nodup [113, 114, 115, 116, 117, 118, 119, 120, 121, 122, 123, 124, 125]; decide) 8 rfl (by decide) (by rw [hs]; decide), G, hA.val0 (by show ¬ 8 ∈ [13, 14]; decide) (by show ¬ 8 ∈ [15, 16]; decide) (by show ¬ 121 ∈ [15, 16]; decide)⟩
    | 9, ho =>
      simp only [List.getElem?_toArray, List.getElem?_cons_zero, List.getElem?_cons_succ, Option.some.injEq] at ho
      subst ho
      have E120 := hV.get 7 rfl (hdep 7 (by decide))
      have E121 := hV.get 8 rfl (hdep 8 (by decide))
      refine stp2 (v := .pointer (some (al.add i))) (w' := W) (.tmp 120) _ (.tmp 121) _ rfl E120 E121 (fun ρ hc hρ hρ2 => by clear hV hK hA; (first | (go_simp; done) | (go_simp; rfl))) ?_
      exact hK _ _ ⟨hs, hV.put (by show List.Nodup [0, 1, 2, 3, 4, 5, 6, 7, 8, 9, 10, 11, 12]; decide) (by show List.Nodup [113, 114, 115, 116, 117, 118, 119, 120, 121, 122, 123, 124, 125]; decide) 9 rfl (by decide) (by rw [hs]; decide), G, hA.val0 (by show ¬ 9 ∈ [13, 14]; decide) (by show ¬ 9 ∈ [15, 16]; decide) (by show ¬ 122 ∈ [15, 16]; decide)⟩
    | 10, ho =>
      simp only [List.getElem?_toArray, List.getElem?_cons_zero, List.getElem?_cons_succ, Option.some.injEq] at ho
      subst ho
      have E122 := hV.get 9 rfl (hdep 9 (by decide))
      have hcl := (hA.below.cell (World.block_lt_of_cell? _ _ hli)).trans hli
      refine stp1 (v := .int .i64 (y : Int)) (w' := W) (.tmp 122) _ rfl E122 (fun ρ hc hρ => by clear hV hK hA; first | (go_simp; done) | (go_simp; rfl)) ?_
      exact hK _ _ ⟨hs, hV.put (by show List.Nodup [0, 1, 2, 3, 4, 5, 6, 7, 8, 9, 10, 11, 12]; decide) (by show List.Nodup [113, 114, 115, 116, 117, 118, 119, 120, 121, 122, 123, 124, 125]; decide) 10 rfl (by decide) (by rw [hs]; decide), G, hA.val0 (by show ¬ 10 ∈ [13, 14]; decide) (by show ¬ 10 ∈ [15, 16]; decide) (by show ¬ 123 ∈ [15, 16]; decide)⟩
    | 11, ho =>
      simp only [List.getElem?_toArray, List.getElem?_cons_zero, List.getElem?_cons_succ, Option.some.injEq] at ho
      subst ho
      have E119 := hV.get 6 rfl (hdep 6 (by decide))
      have E123 := hV.get 10 rfl (hdep 10 (by decide))
      refine stp2 (v := .pointer (some (aq.add (y * 3)))) (w' := W) (.tmp 119) _ (.tmp 123) _ rfl E119 E123 (fun ρ hc hρ hρ2 => by clear hV hK hA; (first | (go_simp; done) | (go_simp; rfl))) ?_
      exact hK _ _ ⟨hs, hV.put (by show List.Nodup [0, 1, 2, 3, 4, 5, 6, 7, 8, 9, 10, 11, 12]; decide) (by show List.Nodup [113, 114, 115, 116, 117, 118, 119, 120, 121, 122, 123, 124, 125]; decide) 11 rfl (by decide) (by rw [hs]; decide), G, hA.val0 (by show ¬ 11 ∈ [13, 14]; decide) (by show ¬ 11 ∈ [15, 16]; decide) (by show ¬ 124 ∈ [15, 16]; decide)⟩
    | 12, ho =>
      simp only [List.getElem?_toArray, List.getElem?_cons_zero, List.getElem?_cons_succ, Option.some.injEq] at ho
      subst ho
      have E124 := hV.get 11 rfl (hdep 11 (by decide))
      refine stp_loadany (cs := q2.cells.toList) rfl rfl E124 (fun j v hj => (hA.below.cell (World.block_lt_of_cell? _ _ (hq2 j v hj))).trans (hq2 j v hj)) Try.underlying106 rfl (by kernel_rfl) ?_
      exact hK _ _ ⟨hs, hV.put (by show List.Nodup [0, 1, 2, 3, 4, 5, 6, 7, 8, 9, 10, 11, 12]; decide) (by show List.Nodup [113, 114, 115, 116, 117, 118, 119, 120, 121, 122, 123, 124, 125]; decide) 12 rfl (by decide) (by rw [hs]; decide), G, hA.val0 (by show ¬ 12 ∈ [13, 14]; decide) (by show ¬ 12 ∈ [15, 16]; decide) (by show ¬ 125 ∈ [15, 16]; decide)⟩
    | 13, ho =>
      simp only [List.getElem?_toArray, List.getElem?_cons_zero, List.getElem?_cons_succ, Option.some.injEq] at ho
      subst ho
      refine stp (v := .pointer (some ⟨W.heap.size, 0, none⟩)) (w' := W.alloc (.cells #[.int .i64 0, .int .i64 0, .int .u64 0] 106 (0, 0))) rfl (by clear hV hK hA; first | (go_simp; done) | (go_simp; rfl)) ?_
      exact hK _ _ ⟨hs, hV.other (by show ¬ 13 ∈ [0, 1, 2, 3, 4, 5, 6, 7, 8, 9, 10, 11, 12]; decide) (by show ¬ 15 ∈ [113, 114, 115, 116, 117, 118, 119, 120, 121, 122, 123, 124, 125]; decide) (by decide), _, hA.alloc (by show List.Nodup [13, 14]; decide) (by show List.Nodup [15, 16]; decide) (List.mem_cons_self ..) (by show ¬ 13 ∈ [15, 16]; decide) hL (by rw [hV.size, hs]; show 15 < 195; decide)⟩
    | 14, ho =>
      simp only [List.getElem?_toArray, List.getElem?_cons_zero, List.getElem?_cons_succ, Option.some.injEq] at ho
      subst ho
      refine stp (v := .pointer (some ⟨W.heap.size, 0, none⟩)) (w' := W.alloc (.cells #[.int .i64 0, .int .i64 0, .int .u64 0] 106 (0, 0))) rfl (by clear hV hK hA; first | (go_simp; done) | (go_simp; rfl)) ?_
      exact hK _ _ ⟨hs, hV.other (by show ¬ 14 ∈ [0, 1, 2, 3, 4, 5, 6, 7, 8, 9, 10, 11, 12]; decide) (by show ¬ 16 ∈ [113, 114, 115, 116, 117, 118, 119, 120, 121, 122, 123, 124, 125]; decide) (by decide), _, hA.alloc (by show List.Nodup [13, 14]; decide) (by show List.Nodup [15, 16]; decide) (List.mem_cons_of_mem _ (List.mem_cons_self ..)) (by show ¬ 14 ∈ [15, 16]; decide) hL (by rw [hV.size, hs]; show 16 < 195; decide)⟩
    | 15, ho =>
      simp only [List.getElem?_toArray, List.getElem?_cons_zero, List.getElem?_cons_succ, Option.some.injEq] at ho
      subst ho
      have E118 := hV.get 5 rfl (hdep 5 (by decide))
      have hia := hdep 13 (by decide)
      have hrw := hA.row _ (List.mem_cons_self ..) hia
      refine ⟨fun _ => wp_store_row 106 _ _ rfl (G 13) q1.cells hrw.1 E118 106 _ (by have h3 := hrw.2.2; simp only [] at h3; rw [hL] at h3; exact h3) (by kernel_rfl) (by rfl) (by simp [Value.oneCell', PoolV.cells, QuoteV.cells]) ?_, fun h2 => absurd h2 (by simp [Region.wanted])⟩
      exact hK _ _ ⟨hs, hV.skip (by show ¬ 15 ∈ [0, 1, 2, 3, 4, 5, 6, 7, 8, 9, 10, 11, 12]; decide), G, hA.store (by show List.Nodup [13, 14]; decide) (by show List.Nodup [15, 16]; decide) (List.mem_cons_self ..) (by show ¬ 15 ∈ [13, 14]; decide) hia hL⟩
    | 16, ho =>
      simp only [List.getElem?_toArray, List.getElem?_cons_zero, List.getElem?_cons_succ, Option.some.injEq] at ho
      subst ho
      have E125 := hV.get 12 rfl (hdep 12 (by decide))
      have hia := hdep 14 (by decide)
      have hrw := hA.row _ (List.mem_cons_of_mem _ (List.mem_cons_self ..)) hia
      refine ⟨fun _ => wp_store_row 106 _ _ rfl (G 14) q2.cells hrw.1 E125 106 _ (by have h3 := hrw.2.2; simp only [] at h3; rw [hL] at h3; exact h3) (by kernel_rfl) (by rfl) (by simp [Value.oneCell', PoolV.cells, QuoteV.cells]) ?_, fun h2 => absurd h2 (by simp [Region.wanted])⟩
      exact hK _ _ ⟨hs, hV.skip (by show ¬ 16 ∈ [0, 1, 2, 3, 4, 5, 6, 7, 8, 9, 10, 11, 12]; decide), G, hA.store (by show List.Nodup [13, 14]; decide) (by show List.Nodup [15, 16]; decide) (List.mem_cons_of_mem _ (List.mem_cons_self ..)) (by show ¬ 16 ∈ [13, 14]; decide) hia hL⟩
    | i' + 17, ho => simp at ho
  · intro L a W hI hall
    obtain ⟨hs', hV, G, hA⟩ := hI
    have ha : a = setA a0 [(113, a.eval (.tmp 113)), (114, a.eval (.tmp 114)), (115, a.eval (.tmp 115)), (116, a.eval (.tmp 116)), (117, a.eval (.tmp 117)), (118, a.eval (.tmp 118)), (119, a.eval (.tmp 119)), (120, a.eval (.tmp 120)), (121, a.eval (.tmp 121)), (122, a.eval (.tmp 122)), (123, a.eval (.tmp 123)), (124, a.eval (.tmp 124)), (125, a.eval (.tmp 125)), (15, a.eval (.tmp 15)), (16, a.eval (.tmp 16))] := hV.act (fun k hk => by rw [hs]; simp at hk; omega)
    rw [hV.get 0 rfl (hall 0 (by decide))] at ha
    rw [hV.get 1 rfl (hall 1 (by decide))] at ha
    rw [hV.get 2 rfl (hall 2 (by decide))] at ha
    rw [hV.get 3 rfl (hall 3 (by decide))] at ha
    rw [hV.get 4 rfl (hall 4 (by decide))] at ha
    rw [hV.get 5 rfl (hall 5 (by decide))] at ha
    rw [hV.get 6 rfl (hall 6 (by decide))] at ha
    rw [hV.get 7 rfl (hall 7 (by decide))] at ha
    rw [hV.get 8 rfl (hall 8 (by decide))] at ha
    rw [hV.get 9 rfl (hall 9 (by decide))] at ha
    rw [hV.get 10 rfl (hall 10 (by decide))] at ha
    rw [hV.get 11 rfl (hall 11 (by decide))] at ha
    rw [hV.get 12 rfl (hall 12 (by decide))] at ha
    obtain ⟨h1_0, h2_0, h3_0⟩ := hA.row _ (List.mem_cons_self ..) (hall 13 (by decide))
    simp only [] at h1_0 h2_0 h3_0
    rw [h1_0] at ha
    rw [hall 15 (by decide)] at h3_0
    obtain ⟨h1_1, h2_1, h3_1⟩ := hA.row _ (List.mem_cons_of_mem _ (List.mem_cons_self ..)) (hall 14 (by decide))
    simp only [] at h1_1 h2_1 h3_1
    rw [h1_1] at ha
    rw [hall 16 (by decide)] at h3_1
    rw [ha]
    exact hQ W _ _ hA.below h2_0 h3_0 h2_1 h3_1 (hA.inj _ (List.mem_cons_of_mem _ (List.mem_cons_self ..)) _ (List.mem_cons_self ..) (by show 14 ≠ 13; decide) (hall 14 (by decide)) (hall 13 (by decide)))
end Go.Proofs.Ytaoflcmjmhfblaa.R
/- RankFirst: the walk. -/
namespace Go.Proofs.Ytaoflcmjmhfblaa.R
open Go.RowKit Go.Proofs.YtaoflcmjmhfblaaW.PrintWords Go.Proofs.YtaoflcmjmhfblaaW.PrintLast Go.Proofs.YtaoflcmjmhfblaaW.PrintMore Go.Proofs.Ytaoflcmjmhfblaa.H Go.Shelf
set_option linter.unusedVariables false
set_option linter.unusedSimpArgs false
theorem infoBool : (Try.prog.info? 4).map (fun i => (i.zero, i.size, i.bytes)) = some (some (.bool false), 1, 1) := by kernel_rfl
/-- Which places were met. -/
def MetOk (np : Nat) (S : List Int) (cs : Array Value) : Prop := cs.size = np ∧ ∀ j, j < np → cs[j]? = some (.bool (decide ((j : Int) ∈ S)))
theorem met_start (np : Nat) : MetOk np [] (madeCells #[.bool false] np) := by
  refine ⟨by simp [madeCells], fun j hj => ?_⟩
  simp [madeCells, hj, Nat.mod_one]
theorem met_step {np : Nat} {S : List Int} {cs : Array Value} (h : MetOk np S cs) (y : Nat) : MetOk np (S ++ [(y : Int)]) (cs.setIfInBounds y (.bool true)) := by
  refine ⟨by simpa using h.1, fun j hj => ?_⟩
  rw [Array.getElem?_setIfInBounds]
  by_cases e : y = j
  · subst e
    rw [if_pos rfl, if_pos (by rw [h.1]; exact hj)]
    simp
  · rw [if_neg e, h.2 j hj]
    congr 2
    have : ¬ (j : Int) = (y : Int) := by omega
    simp [this]
theorem take_step {L : List Int} {i : Nat} (h : i < L.length) : L.take (i + 1) = L.take i ++ [L.getD i 0] := by
  rw [List.take_add_one, List.getElem?_eq_getElem h, List.getD_eq_getElem?_getD, List.getElem?_eq_getElem h]
  rfl
theorem not_met {L : List Int} (hn : L.Nodup) {i : Nat} (h : i < L.length) : L.getD i 0 ∉ L.take i := by
  intro hm
  obtain ⟨j, hj, e⟩ := List.getElem_of_mem hm
  have hj' : j < i := by rw [List.length_take] at hj; omega
  have e2 : L.getD j 0 = L.getD i 0 := by
    rw [List.getElem_take] at e
    rw [← e, List.getD_eq_getElem?_getD, List.getElem?_eq_getElem (by omega)]
    rfl
  have := nodup_getD hn (by omega) h e2
  omega
set_option maxHeartbeats 16000000 in
set_option maxRecDepth 100000 in
theorem rankFirst_calls (cs : Array Value) (Ap Aq : Option Addr) (cp cq : Nat) (st sp : Int) (ps : List PoolV) (qs : List QuoteV) (spot : Bool) (now : Int) (w : World)
    (hcf : CfF cs Ap ps.length cp st sp) (hps : Kd.C kPool w Ap ps.length ps) (hqs : Kd.C kQuote w Aq qs.length qs) (hsz : ps.length * 40 ≤ 140737488355328) :
    Calls Try.prog 11 #[.agg cs, .slice Aq qs.length cq, .bool spot, .int .u64 now] w fun e w' => e = .returned (.bool true) ∧ Below w.heap.size w w' := by
  have KO := Lib.hid (show ∀ W, Below w.heap.size w W → _ from fun W hW => order_calls cs Ap Aq cp cq st sp ps qs spot now W hcf (Kd.C_below hps hW) (Kd.C_below hqs hW) hsz)
  have KR := Lib.hid (show ∀ W, Below w.heap.size w W → _ from fun W hW => refOpens_calls cs Ap Aq cp cq st sp ps qs spot now W hcf (Kd.C_below hps hW) (Kd.C_below hqs hW) hsz)
  have HOP := Lib.hid (show ∀ x ∈ opensL ps qs spot now, _ from fun x hx => opens_in hx)
  have HND := Lib.hid (show (opensL ps qs spot now).Nodup from thoseL_nodup _ _ _ _)
  have HBEST := Lib.hid (show ∀ L, OrderS st ps qs (opensL ps qs spot now) L → ∀ i, i < L.length → _ from fun L h i hi => best_law h hi)
  obtain ⟨l, hl⟩ : ∃ l, opensL ps qs spot now = l := ⟨_, rfl⟩
  rw [hl] at KO KR HOP HND HBEST
  have HPS := Lib.hid hps
  have HQS := Lib.hid hqs
  have HCF := Lib.hid hcf
  have HNP := Lib.hid (show ∀ i : Int, InP ps qs i → 0 ≤ i ∧ i < ps.length ∧ i < qs.length from fun i h => h)
  obtain ⟨np, hnp⟩ : ∃ n, ps.length = n := ⟨_, rfl⟩
  obtain ⟨nq, hnq⟩ : ∃ n, qs.length = n := ⟨_, rfl⟩
  rw [hnp] at HCF HPS HNP
  rw [hnq] at KO KR HQS HNP ⊢
  have HNQ := Lib.hid hnq
  clear hcf hps hqs hsz hl hnp hnq
  have KG := Lib.hid (fun W => great_calls cs Ap Aq np cp nq cq st sp W HCF.out)
  go_enter Try.func11, Try.ntmps11
  go_upto_region 1 with fail
  refine gen_w (fun W => W.heap[w.heap.size]? = some (.cells cs 41 (0, 0)) ∧ Below w.heap.size w W) ⟨heap_alloc_new _ _, below_alloc (Below.refl _ _) _⟩ ?_
  rintro W ⟨h0, hB⟩
  have H0 := Lib.hid h0
  have HB := Lib.hid hB
  clear h0 hB
  by_cases hg : 70 < np ∨ 70 < nq
  · rw [decide_eq_true hg] at KG
    clear hg
    go_wp2_with (first
      | (go_at_call 48; refine (lives_calls _).mono ?_; rintro e w2 ⟨rfl, hb⟩; have HB2 := Lib.hid (below_step HB1.out hb); clear hb)
      | (go_at_call 47; refine (KG.out _).mono ?_; rintro e w1 ⟨rfl, hb⟩; have HB1 := Lib.hid (below_step HB.out hb); clear hb)
      | ((with_reducible refine gate_load 41 rfl ?_); refine wpList_load_row rfl 41 _ rfl _ rfl 41 _ _ _ H0.out Try.underlying41 rfl (by rw [HCF.out.size]; kernel_rfl) ?_))
    go_ret
    exact ⟨rfl, HB2.out⟩
  rw [decide_eq_false hg] at KG
  have hp70 : np ≤ 70 := by omega
  have hq70 : nq ≤ 70 := by omega
  clear hg
  go_upto_region 5 with (first
    | (go_at_call 50; refine (KR.out _ HB2.out).mono ?_; rintro e w3 ⟨v, rfl, hr, hb⟩; obtain ⟨A3, c3, rfl, hc3, hC3⟩ := Kd.R_reads hr; have HB3 := Lib.hid (below_step HB2.out hb); have H03 := Lib.hid (blk_call hb H02.out); have HC := Lib.hid (Kd.C_below HC2.out hb); clear hb hr hc3 hC3)
    | (go_at_call 49; refine (KO.out _ HB1.out).mono ?_; rintro e w2 ⟨A2, c2, L, rfl, hc2, hC2, hb, hS⟩; have HB2 := Lib.hid (below_step HB1.out hb); have H02 := Lib.hid (blk_call hb H01.out); have HC2 := Lib.hid hC2; have HCC := Lib.hid hc2; have HS := Lib.hid hS; clear hb hC2 hc2 hS)
    | (go_at_call 47; refine (KG.out _).mono ?_; rintro e w1 ⟨rfl, hb⟩; have HB1 := Lib.hid (below_step HB.out hb); have H01 := Lib.hid (blk_call hb H0.out); clear hb)
    | ((with_reducible refine gate_load 41 rfl ?_); refine wpList_load_row rfl 41 _ rfl _ rfl 41 _ _ _ H02.out Try.underlying41 rfl (by rw [HCF.out.size]; kernel_rfl) ?_)
    | ((with_reducible refine gate_load 41 rfl ?_); refine wpList_load_row rfl 41 _ rfl _ rfl 41 _ _ _ H01.out Try.underlying41 rfl (by rw [HCF.out.size]; kernel_rfl) ?_)
    | ((with_reducible refine gate_load 41 rfl ?_); refine wpList_load_row rfl 41 _ rfl _ rfl 41 _ _ _ H0.out Try.underlying41 rfl (by rw [HCF.out.size]; kernel_rfl) ?_))
  clear KO KR KG
  obtain ⟨n, hn⟩ : ∃ n, L.length = n := ⟨_, rfl⟩
  rw [hn] at HC HCC ⊢
  have HN := Lib.hid hn
  clear hn
  by_cases hz : n = 0
  · subst hz
    go_wp2_with (go_at_call 48; refine (lives_calls _).mono ?_; rintro e w4 ⟨rfl, hb⟩; have HB4 := Lib.hid (below_step HB3.out hb); clear hb)
    go_ret
    exact ⟨rfl, HB4.out⟩
  have hz1 : ((n : Int) == 0) = false := by simpa using hz
  have hne : ¬ L = [] := fun e => hz (by rw [← HN.out, e]; rfl)
  have hperm := order_perm HS.out hne
  have hlen := hperm.length_eq
  rw [HN.out] at hlen
  have hLL : (l.length : Int) = (n : Int) := by omega
  have HMEM := Lib.hid (show ∀ i, i < n → L.getD i 0 ∈ l from fun i hi => hperm.mem_iff.1 (getD_mem (by rw [HN.out]; exact hi)))
  have HND2 := Lib.hid (hperm.nodup_iff.2 HND.out)
  have HBE := Lib.hid (show ∀ i, i < n → BestP st ps qs (L.getD 0 0) (L.getD i 0) from fun i hi => HBEST.out L HS.out i (by rw [HN.out]; exact hi))
  clear hne hperm hlen HBEST HND
  have hmk := print_make_of (P := Try.prog) 101 4 (.bool false) 1 Try.underlying101 infoBool rfl (by decide) np (by omega)
  have hm := Kd.C_max HC.out
  have hc0 := (blk_cell H03.out 0).trans HCF.out.c0
  go_upto_region 8 with fail
  refine gen_w (fun W => W.heap[w3.heap.size]? = some (.cells (madeCells #[.bool false] np) 4 (0, 0)) ∧ Below w3.heap.size w3 W) ⟨heap_alloc_new _ _, below_alloc (Below.refl _ _) _⟩ ?_
  rintro w4 ⟨hM, hb⟩
  have HM4 := Lib.hid hM
  have HB4 := Lib.hid hb
  clear hM hb hmk hc0
  go_wp2_with fail
  go_loopw [12] (fun v12 wr => ∃ (i : Nat) (ms : Array Value), i ≤ n ∧ v12 = .int .i64 i ∧ Hid (Below w3.heap.size w3 wr) ∧ Hid (wr.heap[w3.heap.size]? = some (.cells ms 4 (0, 0))) ∧ Hid (MetOk np (L.take i) ms)) (fun v12 _ => n - (intOf v12).toNat)
  case atStart => exact ⟨0, _, Nat.zero_le _, rfl, HB4, HM4, Lib.hid (met_start np)⟩
  case round =>
    clear HM4 HB4
    obtain ⟨i, ms, hi, rfl, HBr, HMr, HMO⟩ := hrel
    by_cases hlt : i < n
    · obtain ⟨al, ea, hx0⟩ := loadInt HC.out 0 (by omega)
      rw [add_zeroA] at hx0
      subst ea
      obtain ⟨al', ea', hxi⟩ := loadInt HC.out i hlt
      obtain rfl := Option.some.inj ea'
      clear ea'
      have hm0 := HMEM.out 0 (by omega)
      have hmi := HMEM.out i hlt
      have hnm := not_met HND2.out (i := i) (by rw [HN.out]; exact hlt)
      have hts := take_step (L := L) (i := i) (by rw [HN.out]; exact hlt)
      have hbest := HBE.out i hlt
      obtain ⟨x', hx'⟩ : ∃ x, L.getD 0 0 = x := ⟨_, rfl⟩
      obtain ⟨y', hy'⟩ : ∃ x, L.getD i 0 = x := ⟨_, rfl⟩
      rw [hx'] at hx0 hm0 hbest
      rw [hy'] at hxi hmi hnm hts hbest
      have hix := HNP.out _ (HOP.out _ hm0).1
      have hiy := HNP.out _ (HOP.out _ hmi).1
      obtain ⟨x, rfl⟩ : ∃ m : Nat, x' = m := ⟨x'.toNat, by omega⟩
      obtain ⟨y, rfl⟩ : ∃ m : Nat, y' = m := ⟨y'.toNat, by omega⟩
      clear hx' hy'
      have hoy := HOP.out _ hmi
      have KI := Lib.hid (show ∀ m, Calls Try.prog 51 #[.slice Aq nq cq, .int .i64 (y : Int), .int .u64 now] (wr.drewN m) fun e w' => e = .returned (.bool true) ∧ wr.drewN m = w' from fun m => by
        have h := isOpen0_calls cq (y : Int) now HNQ.out (Kd.C_drewN (Kd.C_below HQS.out (below_step HB3.out HBr.out)) m)
        have hO : isO qs (y : Int) now = true := by
          unfold isO openQ
          rw [HNQ.out]
          have h1 := hoy.2.1
          have h2 := hoy.2.2.1
          simp only [Bool.and_eq_true, decide_eq_true_eq]
          exact ⟨⟨by omega, by omega⟩, h2, by omega⟩
        rw [hO] at h
        exact h)
      obtain ⟨ap, eap, hpy⟩ := loadPool HPS.out y (by omega)
      obtain ⟨ap', eap', hpx⟩ := loadPool HPS.out x (by omega)
      rw [eap] at eap'
      obtain rfl := Option.some.inj eap'
      clear eap'
      obtain ⟨aq, eaq, hqy⟩ := loadQuote HQS.out y (by omega)
      obtain ⟨aq', eaq', hqx⟩ := loadQuote HQS.out x (by omega)
      rw [eaq] at eaq'
      obtain rfl := Option.some.inj eaq'
      clear eaq'
      subst eap
      subst eaq
      unfold pAt at hoy
      have hsp := hoy.2.2.2
      rw [Int.toNat_natCast] at hsp
      have HBw := Lib.hid (below_step HB3.out HBr.out)
      have hs1 := (HBw.out.cell (World.block_lt_of_cell? _ _ (hpy 1 _ rfl))).trans (hpy 1 _ rfl)
      rw [add_f _ _ _ (by omega), hsp] at hs1
      obtain ⟨b1, b2, b3, b4⟩ := hbest
      unfold pAt at b1
      unfold qAt at b3 b4
      unfold priceC pAt qAt at b2 b3 b4
      simp only [Int.toNat_natCast] at b1 b2 b3 b4
      have hsz := 0
      obtain ⟨p1, e1⟩ : ∃ p, ps.getD x zPool = p := ⟨_, rfl⟩
      obtain ⟨p2, e2⟩ : ∃ p, ps.getD y zPool = p := ⟨_, rfl⟩
      obtain ⟨q1, e3⟩ : ∃ p, qs.getD x zQuote = p := ⟨_, rfl⟩
      obtain ⟨q2, e4⟩ : ∃ p, qs.getD y zQuote = p := ⟨_, rfl⟩
      rw [e1, e2] at b1
      rw [e1, e2, e3, e4] at b2
      rw [e1, e2, e3, e4] at b3
      rw [e1, e2, e3, e4] at b4
      rw [e1] at hpx
      rw [e2] at hpy
      rw [e3] at hqx
      rw [e4] at hqy
      have KC := Lib.hid (fun W => cheaper_calls p1 p2 q1 q2 W)
      obtain ⟨ch, hch⟩ : ∃ r, cheaperI p1 p2 q1 q2 = r := ⟨_, rfl⟩
      rw [hch] at KC b2 b3 b4
      have hms := HMO.out.2 y (by omega)
      rw [decide_eq_false hnm] at hms
      have hmc := (blk_cell HMr.out y).trans hms
      have HMO2 := Lib.hid (met_step HMO.out y)
      rw [← hts] at HMO2
      have HMS := Lib.hid (show y < ms.size by rw [HMO.out.1]; omega)
      have HPX := Lib.hid hpx
      have HPY := Lib.hid hpy
      have HQX := Lib.hid hqx
      have HQY := Lib.hid hqy
      have HX0 := Lib.hid hx0
      have HXI := Lib.hid hxi
      have hx0 := (HBr.out.cell (World.block_lt_of_cell? _ _ HX0.out)).trans HX0.out
      have hxi := (HBr.out.cell (World.block_lt_of_cell? _ _ HXI.out)).trans HXI.out
      have xs := And.intro (show x < np by omega) (And.intro (show x < nq by omega) (show y < nq by omega))
      have XS := Lib.hid xs
      clear xs
      have HR0 := Lib.hid (blk_call HBr.out H03.out)
      have hc0 := (blk_cell HR0.out 0).trans HCF.out.c0
      have ys1 : (y : Int) < (np : Int) := by omega
      have ys0 : (0 : Int) ≤ (y : Int) := by omega
      have ys2 : ¬ (y : Int) < 0 := by omega
      have ys3 : ¬ (y : Int) ≥ (np : Int) := by omega
      have il1 : (i : Int) < (n : Int) := by omega
      have il0 : (0 : Int) ≤ (i : Int) := by omega
      clear hch e1 e2 e3 e4 hpx hpy hqx hqy hsp hoy hms hnm hts hmi hm0 hsz HOP
      go_upto_region 11 with fail
      go_quiet (first | exact quiet_left (KI.out _))
      clear hx0 hs1 hc0 KI
      go_upto_region 14 with ((with_reducible refine gate_storeT 4 rfl ?_); refine bx_store1 rfl 4 (.tmp 97) (.const (.bool true)) rfl w3.heap.size y rfl (.bool true) rfl 4 ms HMr.out (by kernel_rfl) HMS.out rfl (ms.setIfInBounds y (.bool true)) rfl (pw_below_drewN HBr.out _) (Nat.le_refl _) ?_; intro w5 hga hsz hoth hb; have HM5 := Lib.hid hga; have HB5 := Lib.hid hb; clear hga hsz hoth hb)
      clear HMr HMS hxi hmc
      have HB5w := Lib.hid (below_step HB3.out HB5.out)
      refine first_reg14 ap al np cp n c2 i x y w.heap.size p1 p2 XS.out.1 (by omega) (by omega) (by omega) (by omega) (by omega) (by omega) (by omega) (by omega) (by omega) (by omega) _ _ rfl rfl rfl rfl rfl ((blk_cell (blk_call HB5.out H03.out) 0).trans HCF.out.c0) ((HB5.out.cell (World.block_lt_of_cell? _ _ HX0.out)).trans HX0.out) ((HB5.out.cell (World.block_lt_of_cell? _ _ HXI.out)).trans HXI.out) (fun j v hj => (HB5w.out.cell (World.block_lt_of_cell? _ _ (HPX.out j v hj))).trans (HPX.out j v hj)) (fun j v hj => (HB5w.out.cell (World.block_lt_of_cell? _ _ (HPY.out j v hj))).trans (HPY.out j v hj)) ?_
      intro w6 g13 g14 hb hl13 hX13 hl14 hX14 hne
      simp only [put_none_, setA, List.foldl_cons, List.foldl_nil, List.setIfInBounds_toArray, List.set_cons_succ, List.set_cons_zero]
      have HB6 := Lib.hid (below_step HB5.out hb)
      have HM6 := Lib.hid (blk_call hb HM5.out)
      have HX13 := Lib.hid hX13
      have HX14 := Lib.hid hX14
      have HB6w := Lib.hid (below_step HB5w.out hb)
      clear hb hl13 hX13 hl14 hX14 hne
      go_upto_region 15 with fail
      refine first_reg15 aq al _ cq n c2 i x y q1 q2 XS.out.2.1 (by have := XS.out.2.1; omega) (by omega) XS.out.2.2 (by have := XS.out.2.2; omega) (by omega) (by omega) (by omega) (by omega) (by omega) (by omega) _ _ rfl rfl rfl rfl rfl ((HB6.out.cell (World.block_lt_of_cell? _ _ HX0.out)).trans HX0.out) ((HB6.out.cell (World.block_lt_of_cell? _ _ HXI.out)).trans HXI.out) (fun j v hj => (HB6w.out.cell (World.block_lt_of_cell? _ _ (HQX.out j v hj))).trans (HQX.out j v hj)) (fun j v hj => (HB6w.out.cell (World.block_lt_of_cell? _ _ (HQY.out j v hj))).trans (HQY.out j v hj)) ?_
      intro w7 g15 g16 hb hl15 hX15 hl16 hX16 hne
      simp only [put_none_, setA, List.foldl_cons, List.foldl_nil, List.setIfInBounds_toArray, List.set_cons_succ, List.set_cons_zero]
      have HB7 := Lib.hid (below_step HB6.out hb)
      have HM7 := Lib.hid (blk_call hb HM6.out)
      have HY13 := Lib.hid (blk_call hb HX13.out)
      have HY14 := Lib.hid (blk_call hb HX14.out)
      have HY15 := Lib.hid hX15
      have HY16 := Lib.hid hX16
      clear hb hl15 hX15 hl16 hX16 hne HX13 HX14
      go_upto_region 17 with (first
        | (go_at_call 52; refine (KC.out _).mono ?_; rintro e w8 ⟨rfl, hb⟩; have HB8 := Lib.hid (below_step HB7.out hb.1); have HM8 := Lib.hid (blk_call hb.1 HM7.out); have d1 := (blk_cell (blk_call hb.1 HY13.out) 3).trans (show _ = some (Value.int .i64 p1.prio) from rfl); have d2 := (blk_cell (blk_call hb.1 HY14.out) 3).trans (show _ = some (Value.int .i64 p2.prio) from rfl); have d3 := (blk_cell (blk_call hb.1 HY15.out) 1).trans (show _ = some (Value.int .i64 q1.score) from rfl); have d4 := (blk_cell (blk_call hb.1 HY16.out) 1).trans (show _ = some (Value.int .i64 q2.score) from rfl); clear hb)
        | ((with_reducible refine gate_load 104 rfl ?_); refine wpList_load_row rfl 104 _ rfl _ rfl 104 _ _ _ HY13.out Try.underlying104 rfl (by kernel_rfl) ?_)
        | ((with_reducible refine gate_load 104 rfl ?_); refine wpList_load_row rfl 104 _ rfl _ rfl 104 _ _ _ HY14.out Try.underlying104 rfl (by kernel_rfl) ?_)
        | ((with_reducible refine gate_load 106 rfl ?_); refine wpList_load_row rfl 106 _ rfl _ rfl 106 _ _ _ HY15.out Try.underlying106 rfl (by kernel_rfl) ?_)
        | ((with_reducible refine gate_load 106 rfl ?_); refine wpList_load_row rfl 106 _ rfl _ rfl 106 _ _ _ HY16.out Try.underlying106 rfl (by kernel_rfl) ?_))
      clear KC HY13 HY14 HY15 HY16
      have d0 := (blk_cell (blk_call HB8.out H03.out) 1).trans HCF.out.c1
      obtain ⟨r1, hr1⟩ : ∃ r, p1.prio = r := ⟨_, rfl⟩
      obtain ⟨r2, hr2⟩ : ∃ r, p2.prio = r := ⟨_, rfl⟩
      obtain ⟨r3, hr3⟩ : ∃ r, q1.score = r := ⟨_, rfl⟩
      obtain ⟨r4, hr4⟩ : ∃ r, q2.score = r := ⟨_, rfl⟩
      rw [hr1] at d1 b1
      rw [hr2] at d2 b1
      rw [hr3] at d3 b3 b4
      rw [hr4] at d4 b3 b4
      clear hr1 hr2 hr3 hr4
      by_cases e1 : st = 1
      · subst e1
        have f1 := b1 rfl
        clear b1 b2 b3 b4
        go_wp2_with fail
        all_goals first | (exfalso; omega) | exact ⟨⟨i + 1, _, by omega, by go_num, HB8, HM8, HMO2⟩, by simp only [intOf]; omega⟩
      have n1 : (st == 1) = false := by simpa using e1
      by_cases e2 : st = 2
      · subst e2
        have f1 := b2 rfl
        clear b1 b2 b3 b4
        go_wp2_with fail
        all_goals first | (exfalso; omega) | exact ⟨⟨i + 1, _, by omega, by go_num, HB8, HM8, HMO2⟩, by simp only [intOf]; omega⟩
      have n2 : (st == 2) = false := by simpa using e2
      by_cases e3 : st = 3
      · subst e3
        have f1 := (b3 rfl).1
        have f2 := (b3 rfl).2
        clear b1 b2 b3 b4
        go_wp2_with fail
        all_goals first | (exfalso; omega) | exact ⟨⟨i + 1, _, by omega, by go_num, HB8, HM8, HMO2⟩, by simp only [intOf]; omega⟩
      have n3 : (st == 3) = false := by simpa using e3
      by_cases e4 : st = 4
      · subst e4
        have f1 := b4 rfl
        clear b1 b2 b3 b4
        go_wp2_with fail
        all_goals first | (exfalso; omega) | exact ⟨⟨i + 1, _, by omega, by go_num, HB8, HM8, HMO2⟩, by simp only [intOf]; omega⟩
      have n4 : (st == 4) = false := by simpa using e4
      clear b1 b2 b3 b4
      go_wp2_with fail
      all_goals first | (exfalso; omega) | exact ⟨⟨i + 1, _, by omega, by go_num, HB8, HM8, HMO2⟩, by simp only [intOf]; omega⟩
    · have : i = n := by omega
      subst this
      have hLL2 : ((i : Int) == (l.length : Int)) = true := by simp; omega
      go_wp2_with (go_at_call 48; refine (lives_calls _).mono ?_; rintro e w9 ⟨rfl, hb⟩; have HB9 := Lib.hid (below_step HBr.out hb); clear hb)
      go_ret
      exact ⟨rfl, below_step HB3.out HB9.out⟩
end Go.Proofs.Ytaoflcmjmhfblaa.R
