/- RankPick: the drawn region. -/
import Derived.Test.YtaoflcmjmhfblaaMgA
import Derived.Test.YtaoflcmjmhfblaaMgJ
namespace Go.Proofs.Ytaoflcmjmhfblaa.R
open Go.RowKit Go.Proofs.YtaoflcmjmhfblaaW.PrintWords Go.Proofs.YtaoflcmjmhfblaaW.PrintLast Go.Proofs.YtaoflcmjmhfblaaW.PrintMore Go.Proofs.Ytaoflcmjmhfblaa.H Go.Shelf
set_option linter.unusedVariables false
set_option linter.unusedSimpArgs false
set_option maxHeartbeats 4000000 in
set_option maxRecDepth 100000 in
theorem pick_reg_true (g5 gm np n cl i k y : Nat) (al : Addr) (st ly lk : Int) (hst : (st == 2) = true) (hkn : k < np) (k1 : (k : Int) < (np : Int)) (k0 : (0 : Int) ≤ (k : Int)) (hyn : y < np) (y1 : (y : Int) < (np : Int)) (y0 : (0 : Int) ≤ (y : Int)) (hin : i < n) (i1 : (i : Int) < (n : Int)) (i0 : (0 : Int) ≤ (i : Int)) (hl : ¬ ly < lk) {Q : Exit → Act → World → Prop} (a0 : Act) (W0 : World) (hs : a0.tmps.size = 142) (hdf : a0.defers = []) (f5 : a0.eval (.tmp 5) = .pointer (some ⟨g5, 0, none⟩)) (f11 : a0.eval (.tmp 11) = .int .i64 (k : Int)) (f13 : a0.eval (.tmp 13) = .slice (some al) n cl) (f14 : a0.eval (.tmp 14) = .slice (some ⟨gm, 0, none⟩) np np) (f17 : a0.eval (.tmp 17) = .int .i64 (i : Int)) (h1 : W0.cell? ⟨g5, 1, none⟩ = some (.int .u8 st)) (hi : W0.cell? (al.add i) = some (.int .i64 (y : Int))) (hy : W0.cell? ⟨gm, y, none⟩ = some (.int .i64 ly)) (hk : W0.cell? ⟨gm, k, none⟩ = some (.int .i64 lk)) (hQ : ∀ (W : World), Below W0.heap.size W0 W → Q .normal (setA a0 [(111, .int .i64 (k : Int)), (112, .bool false), (113, .bool false), (114, .int .i64 (k : Int)), (115, .slice (some ⟨gm, 0, none⟩) np np), (116, .int .i64 (np : Int)), (117, .bool false), (118, .bool false), (119, .bool false), (120, .pointer (some ⟨g5, 1, none⟩)), (121, .int .u8 st), (122, .bool true), (123, .bool true), (124, .slice (some ⟨gm, 0, none⟩) np np), (125, .slice (some al) n cl), (126, .int .i64 (i : Int)), (127, .pointer (some (al.add i))), (128, .int .i64 (y : Int)), (129, .pointer (some ⟨gm, y, none⟩)), (130, .int .i64 ly), (131, .slice (some ⟨gm, 0, none⟩) np np), (132, .int .i64 (k : Int)), (133, .pointer (some ⟨gm, k, none⟩)), (134, .int .i64 lk), (135, .bool false), (136, .bool false), (137, .bool false)]) W) : (Code.region 19 #[{ dst := some 111, op := Op.move (Operand.tmp 11), type := 3, pos := "law.go:114", after := #[], guard := none }, { dst := some 112, op := Op.binOp BinOp.lss 3 (Operand.tmp 111) (Operand.const (Value.int IntKind.i64 0)) 3, type := 4, pos := "law.go:114", after := #[{ on := 0, ground := Ground.data }], guard := none }, { dst := some 113, op := Op.move (Operand.tmp 112), type := 4, pos := "law.go:114", after := #[{ on := 1, ground := Ground.data }], guard := none }, { dst := some 114, op := Op.move (Operand.tmp 11), type := 3, pos := "law.go:114", after := #[{ on := 2, ground := Ground.guard }], guard := some (2, false) }, { dst := some 115, op := Op.move (Operand.tmp 14), type := 111, pos := "law.go:114", after := #[{ on := 2, ground := Ground.guard }], guard := some (2, false) }, { dst := some 116, op := Op.call { callee := Callee.builtin Builtin.len, args := #[Operand.tmp 115], argTypes := #[111] }, type := 3, pos := "law.go:114", after := #[{ on := 4, ground := Ground.data }, { on := 2, ground := Ground.guard }], guard := some (2, false) }, { dst := some 117, op := Op.binOp BinOp.geq 3 (Operand.tmp 114) (Operand.tmp 116) 3, type := 4, pos := "law.go:114", after := #[{ on := 3, ground := Ground.data }, { on := 5, ground := Ground.data }, { on := 2, ground := Ground.guard }], guard := some (2, false) }, { dst := some 118, op := Op.pick (Operand.tmp 113) (Operand.const (Value.bool true)) (Operand.tmp 117), type := 4, pos := "law.go:114", after := #[{ on := 2, ground := Ground.data }, { on := 6, ground := Ground.data }], guard := none }, { dst := some 119, op := Op.move (Operand.tmp 118), type := 4, pos := "law.go:114", after := #[{ on := 7, ground := Ground.data }, { on := 2, ground := Ground.chain }], guard := none }, { dst := some 120, op := Op.fieldAddr 41 (Operand.tmp 5) 1, type := 0, pos := "law.go:114", after := #[{ on := 8, ground := Ground.guard }], guard := some (8, false) }, { dst := some 121, op := Op.load 5 (Operand.tmp 120), type := 5, pos := "law.go:114", after := #[{ on := 9, ground := Ground.data }, { on := 8, ground := Ground.guard }], guard := some (8, false) }, { dst := some 122, op := Op.binOp BinOp.eql 5 (Operand.tmp 121) (Operand.const (Value.int IntKind.u8 2)) 5, type := 4, pos := "law.go:114", after := #[{ on := 10, ground := Ground.data }, { on := 8, ground := Ground.guard }], guard := some (8, false) }, { dst := some 123, op := Op.move (Operand.tmp 122), type := 4, pos := "law.go:114", after := #[{ on := 11, ground := Ground.data }, { on := 8, ground := Ground.chain }, { on := 8, ground := Ground.guard }], guard := some (8, false) }, { dst := some 124, op := Op.move (Operand.tmp 14), type := 111, pos := "law.go:114", after := #[{ on := 12, ground := Ground.guard }], guard := some (12, true) }, { dst := some 125, op := Op.move (Operand.tmp 13), type := 99, pos := "law.go:114", after := #[{ on := 12, ground := Ground.guard }], guard := some (12, true) }, { dst := some 126, op := Op.move (Operand.tmp 17), type := 3, pos := "law.go:114", after := #[{ on := 12, ground := Ground.guard }], guard := some (12, true) }, { dst := some 127, op := Op.indexAddr 99 (Operand.tmp 125) (Operand.tmp 126), type := 0, pos := "law.go:114", after := #[{ on := 14, ground := Ground.data }, { on := 15, ground := Ground.data }, { on := 12, ground := Ground.guard }], guard := some (12, true) }, { dst := some 128, op := Op.load 3 (Operand.tmp 127), type := 3, pos := "law.go:114", after := #[{ on := 16, ground := Ground.data }, { on := 12, ground := Ground.guard }], guard := some (12, true) }, { dst := some 129, op := Op.indexAddr 111 (Operand.tmp 124) (Operand.tmp 128), type := 0, pos := "law.go:114", after := #[{ on := 13, ground := Ground.data }, { on := 17, ground := Ground.data }, { on := 12, ground := Ground.guard }], guard := some (12, true) }, { dst := some 130, op := Op.load 2 (Operand.tmp 129), type := 2, pos := "law.go:114", after := #[{ on := 18, ground := Ground.data }, { on := 12, ground := Ground.guard }], guard := some (12, true) }, { dst := some 131, op := Op.move (Operand.tmp 14), type := 111, pos := "law.go:114", after := #[{ on := 12, ground := Ground.guard }], guard := some (12, true) }, { dst := some 132, op := Op.move (Operand.tmp 11), type := 3, pos := "law.go:114", after := #[{ on := 12, ground := Ground.guard }], guard := some (12, true) }, { dst := some 133, op := Op.indexAddr 111 (Operand.tmp 131) (Operand.tmp 132), type := 0, pos := "law.go:114", after := #[{ on := 20, ground := Ground.data }, { on := 21, ground := Ground.data }, { on := 12, ground := Ground.guard }], guard := some (12, true) }, { dst := some 134, op := Op.load 2 (Operand.tmp 133), type := 2, pos := "law.go:114", after := #[{ on := 22, ground := Ground.data }, { on := 12, ground := Ground.guard }], guard := some (12, true) }, { dst := some 135, op := Op.binOp BinOp.lss 2 (Operand.tmp 130) (Operand.tmp 134) 2, type := 4, pos := "law.go:114", after := #[{ on := 19, ground := Ground.data }, { on := 23, ground := Ground.data }, { on := 12, ground := Ground.guard }], guard := some (12, true) }, { dst := some 136, op := Op.pick (Operand.tmp 123) (Operand.tmp 135) (Operand.const (Value.bool false)), type := 4, pos := "law.go:114", after := #[{ on := 12, ground := Ground.data }, { on := 24, ground := Ground.data }, { on := 8, ground := Ground.guard }], guard := some (8, false) }, { dst := some 137, op := Op.pick (Operand.tmp 119) (Operand.const (Value.bool true)) (Operand.tmp 136), type := 4, pos := "law.go:114", after := #[{ on := 8, ground := Ground.data }, { on := 25, ground := Ground.data }], guard := none }] true).wp Try.prog Q a0 W0 := by
  refine wp_region_inv_at (by kernel_rfl) (fun a0 L a W => a0.tmps.size = 142 ∧ VInv [(0, 111, .int .i64 (k : Int)), (1, 112, .bool false), (2, 113, .bool false), (3, 114, .int .i64 (k : Int)), (4, 115, .slice (some ⟨gm, 0, none⟩) np np), (5, 116, .int .i64 (np : Int)), (6, 117, .bool false), (7, 118, .bool false), (8, 119, .bool false), (9, 120, .pointer (some ⟨g5, 1, none⟩)), (10, 121, .int .u8 st), (11, 122, .bool true), (12, 123, .bool true), (13, 124, .slice (some ⟨gm, 0, none⟩) np np), (14, 125, .slice (some al) n cl), (15, 126, .int .i64 (i : Int)), (16, 127, .pointer (some (al.add i))), (17, 128, .int .i64 (y : Int)), (18, 129, .pointer (some ⟨gm, y, none⟩)), (19, 130, .int .i64 ly), (20, 131, .slice (some ⟨gm, 0, none⟩) np np), (21, 132, .int .i64 (k : Int)), (22, 133, .pointer (some ⟨gm, k, none⟩)), (23, 134, .int .i64 lk), (24, 135, .bool false), (25, 136, .bool false), (26, 137, .bool false)] [111, 112, 113, 114, 115, 116, 117, 118, 119, 120, 121, 122, 123, 124, 125, 126, 127, 128, 129, 130, 131, 132, 133, 134, 135, 136, 137] a0 L a ∧ FInv W0 [] L a W) (by kernel_rfl) ⟨hs, VInv.start _ _ _, FInv.start _ (below_drew (Below.refl _ _))⟩ ?_ ?_
  · intro L i' o a W K hI ho hL hdep0 hK
    obtain ⟨hs, hV, hA⟩ := hI
    have e5 := (hV.keep 5 (by decide)).trans f5
    have e11 := (hV.keep 11 (by decide)).trans f11
    have e13 := (hV.keep 13 (by decide)).trans f13
    have e14 := (hV.keep 14 (by decide)).trans f14
    have e17 := (hV.keep 17 (by decide)).trans f17
    have hdep := deps o hdep0
    clear hdep0
    match i', ho with
    | 0, ho =>
      simp only [List.getElem?_toArray, List.getElem?_cons_zero, List.getElem?_cons_succ, Option.some.injEq] at ho
      subst ho
      have E11 := e11
      refine stp_move rfl (by first | exact .inl rfl | exact .inr rfl) ?_
      rw [E11]
      exact hK _ _ ⟨hs, hV.put (by show List.Nodup [0, 1, 2, 3, 4, 5, 6, 7, 8, 9, 10, 11, 12, 13, 14, 15, 16, 17, 18, 19, 20, 21, 22, 23, 24, 25, 26]; decide) (by show List.Nodup [111, 112, 113, 114, 115, 116, 117, 118, 119, 120, 121, 122, 123, 124, 125, 126, 127, 128, 129, 130, 131, 132, 133, 134, 135, 136, 137]; decide) 0 rfl (by decide) (by rw [hs]; decide), hA.val0 (by show ¬ 0 ∈ []; decide) (by show ¬ 111 ∈ []; decide)⟩
    | 1, ho =>
      simp only [List.getElem?_toArray, List.getElem?_cons_zero, List.getElem?_cons_succ, Option.some.injEq] at ho
      subst ho
      have E111 := hV.get 0 rfl (hdep 0 (by decide))
      refine stp1 (v := .bool false) (w' := W) (.tmp 111) _ rfl E111 (fun ρ hc hρ => by clear hV hK hA; first | (go_simp; done) | (go_simp; rfl)) ?_
      exact hK _ _ ⟨hs, hV.put (by show List.Nodup [0, 1, 2, 3, 4, 5, 6, 7, 8, 9, 10, 11, 12, 13, 14, 15, 16, 17, 18, 19, 20, 21, 22, 23, 24, 25, 26]; decide) (by show List.Nodup [111, 112, 113, 114, 115, 116, 117, 118, 119, 120, 121, 122, 123, 124, 125, 126, 127, 128, 129, 130, 131, 132, 133, 134, 135, 136, 137]; decide) 1 rfl (by decide) (by rw [hs]; decide), hA.val0 (by show ¬ 1 ∈ []; decide) (by show ¬ 112 ∈ []; decide)⟩
    | 2, ho =>
      simp only [List.getElem?_toArray, List.getElem?_cons_zero, List.getElem?_cons_succ, Option.some.injEq] at ho
      subst ho
      have E112 := hV.get 1 rfl (hdep 1 (by decide))
      refine stp_move rfl (by first | exact .inl rfl | exact .inr rfl) ?_
      rw [E112]
      exact hK _ _ ⟨hs, hV.put (by show List.Nodup [0, 1, 2, 3, 4, 5, 6, 7, 8, 9, 10, 11, 12, 13, 14, 15, 16, 17, 18, 19, 20, 21, 22, 23, 24, 25, 26]; decide) (by show List.Nodup [111, 112, 113, 114, 115, 116, 117, 118, 119, 120, 121, 122, 123, 124, 125, 126, 127, 128, 129, 130, 131, 132, 133, 134, 135, 136, 137]; decide) 2 rfl (by decide) (by rw [hs]; decide), hA.val0 (by show ¬ 2 ∈ []; decide) (by show ¬ 113 ∈ []; decide)⟩
    | 3, ho =>
      simp only [List.getElem?_toArray, List.getElem?_cons_zero, List.getElem?_cons_succ, Option.some.injEq] at ho
      subst ho
      have E11 := e11
      have EG := hV.get 2 rfl (hdep 2 (by decide))
      refine stp_yes1 (s := 113) (v := .int .i64 (k : Int)) (w' := W) (.tmp 11) _ rfl rfl rfl EG E11 (fun ρ hc hρ => by clear hV hK hA; first | (go_simp; done) | (go_simp; rfl)) ?_
      exact hK _ _ ⟨hs, hV.put (by show List.Nodup [0, 1, 2, 3, 4, 5, 6, 7, 8, 9, 10, 11, 12, 13, 14, 15, 16, 17, 18, 19, 20, 21, 22, 23, 24, 25, 26]; decide) (by show List.Nodup [111, 112, 113, 114, 115, 116, 117, 118, 119, 120, 121, 122, 123, 124, 125, 126, 127, 128, 129, 130, 131, 132, 133, 134, 135, 136, 137]; decide) 3 rfl (by decide) (by rw [hs]; decide), hA.val0 (by show ¬ 3 ∈ []; decide) (by show ¬ 114 ∈ []; decide)⟩
    | 4, ho =>
      simp only [List.getElem?_toArray, List.getElem?_cons_zero, List.getElem?_cons_succ, Option.some.injEq] at ho
      subst ho
      have E14 := e14
      have EG := hV.get 2 rfl (hdep 2 (by decide))
      refine stp_yes1 (s := 113) (v := .slice (some ⟨gm, 0, none⟩) np np) (w' := W) (.tmp 14) _ rfl rfl rfl EG E14 (fun ρ hc hρ => by clear hV hK hA; first | (go_simp; done) | (go_simp; rfl)) ?_
      exact hK _ _ ⟨hs, hV.put (by show List.Nodup [0, 1, 2, 3, 4, 5, 6, 7, 8, 9, 10, 11, 12, 13, 14, 15, 16, 17, 18, 19, 20, 21, 22, 23, 24, 25, 26]; decide) (by show List.Nodup [111, 112, 113, 114, 115, 116, 117, 118, 119, 120, 121, 122, 123, 124, 125, 126, 127, 128, 129, 130, 131, 132, 133, 134, 135, 136, 137]; decide) 4 rfl (by decide) (by rw [hs]; decide), hA.val0 (by show ¬ 4 ∈ []; decide) (by show ¬ 115 ∈ []; decide)⟩
    | 5, ho =>
      simp only [List.getElem?_toArray, List.getElem?_cons_zero, List.getElem?_cons_succ, Option.some.injEq] at ho
      subst ho
      have E115 := hV.get 4 rfl (hdep 4 (by decide))
      have EG := hV.get 2 rfl (hdep 2 (by decide))
      refine stp_yes1 (s := 113) (v := .int .i64 (np : Int)) (w' := W) (.tmp 115) _ rfl rfl rfl EG E115 (fun ρ hc hρ => by clear hV hK hA; first | (go_simp; done) | (go_simp; rfl)) ?_
      exact hK _ _ ⟨hs, hV.put (by show List.Nodup [0, 1, 2, 3, 4, 5, 6, 7, 8, 9, 10, 11, 12, 13, 14, 15, 16, 17, 18, 19, 20, 21, 22, 23, 24, 25, 26]; decide) (by show List.Nodup [111, 112, 113, 114, 115, 116, 117, 118, 119, 120, 121, 122, 123, 124, 125, 126, 127, 128, 129, 130, 131, 132, 133, 134, 135, 136, 137]; decide) 5 rfl (by decide) (by rw [hs]; decide), hA.val0 (by show ¬ 5 ∈ []; decide) (by show ¬ 116 ∈ []; decide)⟩
    | 6, ho =>
      simp only [List.getElem?_toArray, List.getElem?_cons_zero, List.getElem?_cons_succ, Option.some.injEq] at ho
      subst ho
      have E114 := hV.get 3 rfl (hdep 3 (by decide))
      have E116 := hV.get 5 rfl (hdep 5 (by decide))
      have EG := hV.get 2 rfl (hdep 2 (by decide))
      refine stp_yes2 (s := 113) (v := .bool false) (w' := W) (.tmp 114) _ (.tmp 116) _ rfl rfl rfl EG E114 E116 (fun ρ hc hρ hρ2 => by clear hV hK hA; (first | (go_simp; done) | (go_simp; rfl))) ?_
      exact hK _ _ ⟨hs, hV.put (by show List.Nodup [0, 1, 2, 3, 4, 5, 6, 7, 8, 9, 10, 11, 12, 13, 14, 15, 16, 17, 18, 19, 20, 21, 22, 23, 24, 25, 26]; decide) (by show List.Nodup [111, 112, 113, 114, 115, 116, 117, 118, 119, 120, 121, 122, 123, 124, 125, 126, 127, 128, 129, 130, 131, 132, 133, 134, 135, 136, 137]; decide) 6 rfl (by decide) (by rw [hs]; decide), hA.val0 (by show ¬ 6 ∈ []; decide) (by show ¬ 117 ∈ []; decide)⟩
    | 7, ho =>
      simp only [List.getElem?_toArray, List.getElem?_cons_zero, List.getElem?_cons_succ, Option.some.injEq] at ho
      subst ho
      have E113 := hV.get 2 rfl (hdep 2 (by decide))
      have E117 := hV.get 6 rfl (hdep 6 (by decide))
      refine stp2 (v := .bool false) (w' := W) (.tmp 113) _ (.tmp 117) _ rfl E113 E117 (fun ρ hc hρ hρ2 => by clear hV hK hA; (first | (go_simp; done) | (go_simp; rfl))) ?_
      exact hK _ _ ⟨hs, hV.put (by show List.Nodup [0, 1, 2, 3, 4, 5, 6, 7, 8, 9, 10, 11, 12, 13, 14, 15, 16, 17, 18, 19, 20, 21, 22, 23, 24, 25, 26]; decide) (by show List.Nodup [111, 112, 113, 114, 115, 116, 117, 118, 119, 120, 121, 122, 123, 124, 125, 126, 127, 128, 129, 130, 131, 132, 133, 134, 135, 136, 137]; decide) 7 rfl (by decide) (by rw [hs]; decide), hA.val0 (by show ¬ 7 ∈ []; decide) (by show ¬ 118 ∈ []; decide)⟩
    | 8, ho =>
      simp only [List.getElem?_toArray, List.getElem?_cons_zero, List.getElem?_cons_succ, Option.some.injEq] at ho
      subst ho
      have E118 := hV.get 7 rfl (hdep 7 (by decide))
      refine stp_move rfl (by first | exact .inl rfl | exact .inr rfl) ?_
      rw [E118]
      exact hK _ _ ⟨hs, hV.put (by show List.Nodup [0, 1, 2, 3, 4, 5, 6, 7, 8, 9, 10, 11, 12, 13, 14, 15, 16, 17, 18, 19, 20, 21, 22, 23, 24, 25, 26]; decide) (by show List.Nodup [111, 112, 113, 114, 115, 116, 117, 118, 119, 120, 121, 122, 123, 124, 125, 126, 127, 128, 129, 130, 131, 132, 133, 134, 135, 136, 137]; decide) 8 rfl (by decide) (by rw [hs]; decide), hA.val0 (by show ¬ 8 ∈ []; decide) (by show ¬ 119 ∈ []; decide)⟩
    | 9, ho =>
      simp only [List.getElem?_toArray, List.getElem?_cons_zero, List.getElem?_cons_succ, Option.some.injEq] at ho
      subst ho
      have E5 := e5
      have EG := hV.get 8 rfl (hdep 8 (by decide))
      refine stp_yes1 (s := 119) (v := .pointer (some ⟨g5, 1, none⟩)) (w' := W) (.tmp 5) _ rfl rfl rfl EG E5 (fun ρ hc hρ => by clear hV hK hA; first | (go_simp; done) | (go_simp; rfl)) ?_
      exact hK _ _ ⟨hs, hV.put (by show List.Nodup [0, 1, 2, 3, 4, 5, 6, 7, 8, 9, 10, 11, 12, 13, 14, 15, 16, 17, 18, 19, 20, 21, 22, 23, 24, 25, 26]; decide) (by show List.Nodup [111, 112, 113, 114, 115, 116, 117, 118, 119, 120, 121, 122, 123, 124, 125, 126, 127, 128, 129, 130, 131, 132, 133, 134, 135, 136, 137]; decide) 9 rfl (by decide) (by rw [hs]; decide), hA.val0 (by show ¬ 9 ∈ []; decide) (by show ¬ 120 ∈ []; decide)⟩
    | 10, ho =>
      simp only [List.getElem?_toArray, List.getElem?_cons_zero, List.getElem?_cons_succ, Option.some.injEq] at ho
      subst ho
      have E120 := hV.get 9 rfl (hdep 9 (by decide))
      have EG := hV.get 8 rfl (hdep 8 (by decide))
      have hcl := (hA.below.cell (World.block_lt_of_cell? _ _ h1)).trans h1
      refine stp_yes1 (s := 119) (v := .int .u8 st) (w' := W) (.tmp 120) _ rfl rfl rfl EG E120 (fun ρ hc hρ => by clear hV hK hA; first | (go_simp; done) | (go_simp; rfl)) ?_
      exact hK _ _ ⟨hs, hV.put (by show List.Nodup [0, 1, 2, 3, 4, 5, 6, 7, 8, 9, 10, 11, 12, 13, 14, 15, 16, 17, 18, 19, 20, 21, 22, 23, 24, 25, 26]; decide) (by show List.Nodup [111, 112, 113, 114, 115, 116, 117, 118, 119, 120, 121, 122, 123, 124, 125, 126, 127, 128, 129, 130, 131, 132, 133, 134, 135, 136, 137]; decide) 10 rfl (by decide) (by rw [hs]; decide), hA.val0 (by show ¬ 10 ∈ []; decide) (by show ¬ 121 ∈ []; decide)⟩
    | 11, ho =>
      simp only [List.getElem?_toArray, List.getElem?_cons_zero, List.getElem?_cons_succ, Option.some.injEq] at ho
      subst ho
      have E121 := hV.get 10 rfl (hdep 10 (by decide))
      have EG := hV.get 8 rfl (hdep 8 (by decide))
      refine stp_yes1 (s := 119) (v := .bool true) (w' := W) (.tmp 121) _ rfl rfl rfl EG E121 (fun ρ hc hρ => by clear hV hK hA; first | (go_simp; done) | (go_simp; rfl)) ?_
      exact hK _ _ ⟨hs, hV.put (by show List.Nodup [0, 1, 2, 3, 4, 5, 6, 7, 8, 9, 10, 11, 12, 13, 14, 15, 16, 17, 18, 19, 20, 21, 22, 23, 24, 25, 26]; decide) (by show List.Nodup [111, 112, 113, 114, 115, 116, 117, 118, 119, 120, 121, 122, 123, 124, 125, 126, 127, 128, 129, 130, 131, 132, 133, 134, 135, 136, 137]; decide) 11 rfl (by decide) (by rw [hs]; decide), hA.val0 (by show ¬ 11 ∈ []; decide) (by show ¬ 122 ∈ []; decide)⟩
    | 12, ho =>
      simp only [List.getElem?_toArray, List.getElem?_cons_zero, List.getElem?_cons_succ, Option.some.injEq] at ho
      subst ho
      have E122 := hV.get 11 rfl (hdep 11 (by decide))
      have EG := hV.get 8 rfl (hdep 8 (by decide))
      refine stp_yes1 (s := 119) (v := .bool true) (w' := W) (.tmp 122) _ rfl rfl rfl EG E122 (fun ρ hc hρ => by clear hV hK hA; first | (go_simp; done) | (go_simp; rfl)) ?_
      exact hK _ _ ⟨hs, hV.put (by show List.Nodup [0, 1, 2, 3, 4, 5, 6, 7, 8, 9, 10, 11, 12, 13, 14, 15, 16, 17, 18, 19, 20, 21, 22, 23, 24, 25, 26]; decide) (by show List.Nodup [111, 112, 113, 114, 115, 116, 117, 118, 119, 120, 121, 122, 123, 124, 125, 126, 127, 128, 129, 130, 131, 132, 133, 134, 135, 136, 137]; decide) 12 rfl (by decide) (by rw [hs]; decide), hA.val0 (by show ¬ 12 ∈ []; decide) (by show ¬ 123 ∈ []; decide)⟩
    | 13, ho =>
      simp only [List.getElem?_toArray, List.getElem?_cons_zero, List.getElem?_cons_succ, Option.some.injEq] at ho
      subst ho
      have E14 := e14
      have EG := hV.get 12 rfl (hdep 12 (by decide))
      refine stp_yes1 (s := 123) (v := .slice (some ⟨gm, 0, none⟩) np np) (w' := W) (.tmp 14) _ rfl rfl rfl EG E14 (fun ρ hc hρ => by clear hV hK hA; first | (go_simp; done) | (go_simp; rfl)) ?_
      exact hK _ _ ⟨hs, hV.put (by show List.Nodup [0, 1, 2, 3, 4, 5, 6, 7, 8, 9, 10, 11, 12, 13, 14, 15, 16, 17, 18, 19, 20, 21, 22, 23, 24, 25, 26]; decide) (by show List.Nodup [111, 112, 113, 114, 115, 116, 117, 118, 119, 120, 121, 122, 123, 124, 125, 126, 127, 128, 129, 130, 131, 132, 133, 134, 135, 136, 137]; decide) 13 rfl (by decide) (by rw [hs]; decide), hA.val0 (by show ¬ 13 ∈ []; decide) (by show ¬ 124 ∈ []; decide)⟩
    | 14, ho =>
      simp only [List.getElem?_toArray, List.getElem?_cons_zero, List.getElem?_cons_succ, Option.some.injEq] at ho
      subst ho
      have E13 := e13
      have EG := hV.get 12 rfl (hdep 12 (by decide))
      refine stp_yes1 (s := 123) (v := .slice (some al) n cl) (w' := W) (.tmp 13) _ rfl rfl rfl EG E13 (fun ρ hc hρ => by clear hV hK hA; first | (go_simp; done) | (go_simp; rfl)) ?_
      exact hK _ _ ⟨hs, hV.put (by show List.Nodup [0, 1, 2, 3, 4, 5, 6, 7, 8, 9, 10, 11, 12, 13, 14, 15, 16, 17, 18, 19, 20, 21, 22, 23, 24, 25, 26]; decide) (by show List.Nodup [111, 112, 113, 114, 115, 116, 117, 118, 119, 120, 121, 122, 123, 124, 125, 126, 127, 128, 129, 130, 131, 132, 133, 134, 135, 136, 137]; decide) 14 rfl (by decide) (by rw [hs]; decide), hA.val0 (by show ¬ 14 ∈ []; decide) (by show ¬ 125 ∈ []; decide)⟩
    | 15, ho =>
      simp only [List.getElem?_toArray, List.getElem?_cons_zero, List.getElem?_cons_succ, Option.some.injEq] at ho
      subst ho
      have E17 := e17
      have EG := hV.get 12 rfl (hdep 12 (by decide))
      refine stp_yes1 (s := 123) (v := .int .i64 (i : Int)) (w' := W) (.tmp 17) _ rfl rfl rfl EG E17 (fun ρ hc hρ => by clear hV hK hA; first | (go_simp; done) | (go_simp; rfl)) ?_
      exact hK _ _ ⟨hs, hV.put (by show List.Nodup [0, 1, 2, 3, 4, 5, 6, 7, 8, 9, 10, 11, 12, 13, 14, 15, 16, 17, 18, 19, 20, 21, 22, 23, 24, 25, 26]; decide) (by show List.Nodup [111, 112, 113, 114, 115, 116, 117, 118, 119, 120, 121, 122, 123, 124, 125, 126, 127, 128, 129, 130, 131, 132, 133, 134, 135, 136, 137]; decide) 15 rfl (by decide) (by rw [hs]; decide), hA.val0 (by show ¬ 15 ∈ []; decide) (by show ¬ 126 ∈ []; decide)⟩
    | 16, ho =>
      simp only [List.getElem?_toArray, List.getElem?_cons_zero, List.getElem?_cons_succ, Option.some.injEq] at ho
      subst ho
      have E125 := hV.get 14 rfl (hdep 14 (by decide))
      have E126 := hV.get 15 rfl (hdep 15 (by decide))
      have EG := hV.get 12 rfl (hdep 12 (by decide))
      refine stp_yes2 (s := 123) (v := .pointer (some (al.add i))) (w' := W) (.tmp 125) _ (.tmp 126) _ rfl rfl rfl EG E125 E126 (fun ρ hc hρ hρ2 => by clear hV hK hA; (first | (go_simp; done) | (go_simp; rfl))) ?_
      exact hK _ _ ⟨hs, hV.put (by show List.Nodup [0, 1, 2, 3, 4, 5, 6, 7, 8, 9, 10, 11, 12, 13, 14, 15, 16, 17, 18, 19, 20, 21, 22, 23, 24, 25, 26]; decide) (by show List.Nodup [111, 112, 113, 114, 115, 116, 117, 118, 119, 120, 121, 122, 123, 124, 125, 126, 127, 128, 129, 130, 131, 132, 133, 134, 135, 136, 137]; decide) 16 rfl (by decide) (by rw [hs]; decide), hA.val0 (by show ¬ 16 ∈ []; decide) (by show ¬ 127 ∈ []; decide)⟩
    | 17, ho =>
      simp only [List.getElem?_toArray, List.getElem?_cons_zero, List.getElem?_cons_succ, Option.some.injEq] at ho
      subst ho
      have E127 := hV.get 16 rfl (hdep 16 (by decide))
      have EG := hV.get 12 rfl (hdep 12 (by decide))
      have hcl := (hA.below.cell (World.block_lt_of_cell? _ _ hi)).trans hi
      refine stp_yes1 (s := 123) (v := .int .i64 (y : Int)) (w' := W) (.tmp 127) _ rfl rfl rfl EG E127 (fun ρ hc hρ => by clear hV hK hA; first | (go_simp; done) | (go_simp; rfl)) ?_
      exact hK _ _ ⟨hs, hV.put (by show List.Nodup [0, 1, 2, 3, 4, 5, 6, 7, 8, 9, 10, 11, 12, 13, 14, 15, 16, 17, 18, 19, 20, 21, 22, 23, 24, 25, 26]; decide) (by show List.Nodup [111, 112, 113, 114, 115, 116, 117, 118, 119, 120, 121, 122, 123, 124, 125, 126, 127, 128, 129, 130, 131, 132, 133, 134, 135, 136, 137]; decide) 17 rfl (by decide) (by rw [hs]; decide), hA.val0 (by show ¬ 17 ∈ []; decide) (by show ¬ 128 ∈ []; decide)⟩
    | 18, ho =>
      simp only [List.getElem?_toArray, List.getElem?_cons_zero, List.getElem?_cons_succ, Option.some.injEq] at ho
      subst ho
      have E124 := hV.get 13 rfl (hdep 13 (by decide))
      have E128 := hV.get 17 rfl (hdep 17 (by decide))
      have EG := hV.get 12 rfl (hdep 12 (by decide))
      refine stp_yes2 (s := 123) (v := .pointer (some ⟨gm, y, none⟩)) (w' := W) (.tmp 124) _ (.tmp 128) _ rfl rfl rfl EG E124 E128 (fun ρ hc hρ hρ2 => by clear hV hK hA; (first | (go_simp; done) | (go_simp; rfl))) ?_
      exact hK _ _ ⟨hs, hV.put (by show List.Nodup [0, 1, 2, 3, 4, 5, 6, 7, 8, 9, 10, 11, 12, 13, 14, 15, 16, 17, 18, 19, 20, 21, 22, 23, 24, 25, 26]; decide) (by show List.Nodup [111, 112, 113, 114, 115, 116, 117, 118, 119, 120, 121, 122, 123, 124, 125, 126, 127, 128, 129, 130, 131, 132, 133, 134, 135, 136, 137]; decide) 18 rfl (by decide) (by rw [hs]; decide), hA.val0 (by show ¬ 18 ∈ []; decide) (by show ¬ 129 ∈ []; decide)⟩
    | 19, ho =>
      simp only [List.getElem?_toArray, List.getElem?_cons_zero, List.getElem?_cons_succ, Option.some.injEq] at ho
      subst ho
      have E129 := hV.get 18 rfl (hdep 18 (by decide))
      have EG := hV.get 12 rfl (hdep 12 (by decide))
      have hcl := (hA.below.cell (World.block_lt_of_cell? _ _ hy)).trans hy
      refine stp_yes1 (s := 123) (v := .int .i64 ly) (w' := W) (.tmp 129) _ rfl rfl rfl EG E129 (fun ρ hc hρ => by clear hV hK hA; first | (go_simp; done) | (go_simp; rfl)) ?_
      exact hK _ _ ⟨hs, hV.put (by show List.Nodup [0, 1, 2, 3, 4, 5, 6, 7, 8, 9, 10, 11, 12, 13, 14, 15, 16, 17, 18, 19, 20, 21, 22, 23, 24, 25, 26]; decide) (by show List.Nodup [111, 112, 113, 114, 115, 116, 117, 118, 119, 120, 121, 122, 123, 124, 125, 126, 127, 128, 129, 130, 131, 132, 133, 134, 135, 136, 137]; decide) 19 rfl (by decide) (by rw [hs]; decide), hA.val0 (by show ¬ 19 ∈ []; decide) (by show ¬ 130 ∈ []; decide)⟩
    | 20, ho =>
      simp only [List.getElem?_toArray, List.getElem?_cons_zero, List.getElem?_cons_succ, Option.some.injEq] at ho
      subst ho
      have E14 := e14
      have EG := hV.get 12 rfl (hdep 12 (by decide))
      refine stp_yes1 (s := 123) (v := .slice (some ⟨gm, 0, none⟩) np np) (w' := W) (.tmp 14) _ rfl rfl rfl EG E14 (fun ρ hc hρ => by clear hV hK hA; first | (go_simp; done) | (go_simp; rfl)) ?_
      exact hK _ _ ⟨hs, hV.put (by show List.Nodup [0, 1, 2, 3, 4, 5, 6, 7, 8, 9, 10, 11, 12, 13, 14, 15, 16, 17, 18, 19, 20, 21, 22, 23, 24, 25, 26]; decide) (by show List.Nodup [111, 112, 113, 114, 115, 116, 117, 118, 119, 120, 121, 122, 123, 124, 125, 126, 127, 128, 129, 130, 131, 132, 133, 134, 135, 136, 137]; decide) 20 rfl (by decide) (by rw [hs]; decide), hA.val0 (by show ¬ 20 ∈ []; decide) (by show ¬ 131 ∈ []; decide)⟩
    | 21, ho =>
      simp only [List.getElem?_toArray, List.getElem?_cons_zero, List.getElem?_cons_succ, Option.some.injEq] at ho
      subst ho
      have E11 := e11
      have EG := hV.get 12 rfl (hdep 12 (by decide))
      refine stp_yes1 (s := 123) (v := .int .i64 (k : Int)) (w' := W) (.tmp 11) _ rfl rfl rfl EG E11 (fun ρ hc hρ => by clear hV hK hA; first | (go_simp; done) | (go_simp; rfl)) ?_
      exact hK _ _ ⟨hs, hV.put (by show List.Nodup [0, 1, 2, 3, 4, 5, 6, 7, 8, 9, 10, 11, 12, 13, 14, 15, 16, 17, 18, 19, 20, 21, 22, 23, 24, 25, 26]; decide) (by show List.Nodup [111, 112, 113, 114, 115, 116, 117, 118, 119, 120, 121, 122, 123, 124, 125, 126, 127, 128, 129, 130, 131, 132, 133, 134, 135, 136, 137]; decide) 21 rfl (by decide) (by rw [hs]; decide), hA.val0 (by show ¬ 21 ∈ []; decide) (by show ¬ 132 ∈ []; decide)⟩
    | 22, ho =>
      simp only [List.getElem?_toArray, List.getElem?_cons_zero, List.getElem?_cons_succ, Option.some.injEq] at ho
      subst ho
      have E131 := hV.get 20 rfl (hdep 20 (by decide))
      have E132 := hV.get 21 rfl (hdep 21 (by decide))
      have EG := hV.get 12 rfl (hdep 12 (by decide))
      refine stp_yes2 (s := 123) (v := .pointer (some ⟨gm, k, none⟩)) (w' := W) (.tmp 131) _ (.tmp 132) _ rfl rfl rfl EG E131 E132 (fun ρ hc hρ hρ2 => by clear hV hK hA; (first | (go_simp; done) | (go_simp; rfl))) ?_
      exact hK _ _ ⟨hs, hV.put (by show List.Nodup [0, 1, 2, 3, 4, 5, 6, 7, 8, 9, 10, 11, 12, 13, 14, 15, 16, 17, 18, 19, 20, 21, 22, 23, 24, 25, 26]; decide) (by show List.Nodup [111, 112, 113, 114, 115, 116, 117, 118, 119, 120, 121, 122, 123, 124, 125, 126, 127, 128, 129, 130, 131, 132, 133, 134, 135, 136, 137]; decide) 22 rfl (by decide) (by rw [hs]; decide), hA.val0 (by show ¬ 22 ∈ []; decide) (by show ¬ 133 ∈ []; decide)⟩
    | 23, ho =>
      simp only [List.getElem?_toArray, List.getElem?_cons_zero, List.getElem?_cons_succ, Option.some.injEq] at ho
      subst ho
      have E133 := hV.get 22 rfl (hdep 22 (by decide))
      have EG := hV.get 12 rfl (hdep 12 (by decide))
      have hcl := (hA.below.cell (World.block_lt_of_cell? _ _ hk)).trans hk
      refine stp_yes1 (s := 123) (v := .int .i64 lk) (w' := W) (.tmp 133) _ rfl rfl rfl EG E133 (fun ρ hc hρ => by clear hV hK hA; first | (go_simp; done) | (go_simp; rfl)) ?_
      exact hK _ _ ⟨hs, hV.put (by show List.Nodup [0, 1, 2, 3, 4, 5, 6, 7, 8, 9, 10, 11, 12, 13, 14, 15, 16, 17, 18, 19, 20, 21, 22, 23, 24, 25, 26]; decide) (by show List.Nodup [111, 112, 113, 114, 115, 116, 117, 118, 119, 120, 121, 122, 123, 124, 125, 126, 127, 128, 129, 130, 131, 132, 133, 134, 135, 136, 137]; decide) 23 rfl (by decide) (by rw [hs]; decide), hA.val0 (by show ¬ 23 ∈ []; decide) (by show ¬ 134 ∈ []; decide)⟩
    | 24, ho =>
      simp only [List.getElem?_toArray, List.getElem?_cons_zero, List.getElem?_cons_succ, Option.some.injEq] at ho
      subst ho
      have E130 := hV.get 19 rfl (hdep 19 (by decide))
      have E134 := hV.get 23 rfl (hdep 23 (by decide))
      have EG := hV.get 12 rfl (hdep 12 (by decide))
      refine stp_yes2 (s := 123) (v := .bool false) (w' := W) (.tmp 130) _ (.tmp 134) _ rfl rfl rfl EG E130 E134 (fun ρ hc hρ hρ2 => by clear hV hK hA; (first | (go_simp; done) | (go_simp; rfl))) ?_
      exact hK _ _ ⟨hs, hV.put (by show List.Nodup [0, 1, 2, 3, 4, 5, 6, 7, 8, 9, 10, 11, 12, 13, 14, 15, 16, 17, 18, 19, 20, 21, 22, 23, 24, 25, 26]; decide) (by show List.Nodup [111, 112, 113, 114, 115, 116, 117, 118, 119, 120, 121, 122, 123, 124, 125, 126, 127, 128, 129, 130, 131, 132, 133, 134, 135, 136, 137]; decide) 24 rfl (by decide) (by rw [hs]; decide), hA.val0 (by show ¬ 24 ∈ []; decide) (by show ¬ 135 ∈ []; decide)⟩
    | 25, ho =>
      simp only [List.getElem?_toArray, List.getElem?_cons_zero, List.getElem?_cons_succ, Option.some.injEq] at ho
      subst ho
      have E123 := hV.get 12 rfl (hdep 12 (by decide))
      have E135 := hV.get 24 rfl (hdep 24 (by decide))
      have EG := hV.get 8 rfl (hdep 8 (by decide))
      refine stp_yes2 (s := 119) (v := .bool false) (w' := W) (.tmp 123) _ (.tmp 135) _ rfl rfl rfl EG E123 E135 (fun ρ hc hρ hρ2 => by clear hV hK hA; (first | (go_simp; done) | (go_simp; rfl))) ?_
      exact hK _ _ ⟨hs, hV.put (by show List.Nodup [0, 1, 2, 3, 4, 5, 6, 7, 8, 9, 10, 11, 12, 13, 14, 15, 16, 17, 18, 19, 20, 21, 22, 23, 24, 25, 26]; decide) (by show List.Nodup [111, 112, 113, 114, 115, 116, 117, 118, 119, 120, 121, 122, 123, 124, 125, 126, 127, 128, 129, 130, 131, 132, 133, 134, 135, 136, 137]; decide) 25 rfl (by decide) (by rw [hs]; decide), hA.val0 (by show ¬ 25 ∈ []; decide) (by show ¬ 136 ∈ []; decide)⟩
    | 26, ho =>
      simp only [List.getElem?_toArray, List.getElem?_cons_zero, List.getElem?_cons_succ, Option.some.injEq] at ho
      subst ho
      have E119 := hV.get 8 rfl (hdep 8 (by decide))
      have E136 := hV.get 25 rfl (hdep 25 (by decide))
      refine stp2 (v := .bool false) (w' := W) (.tmp 119) _ (.tmp 136) _ rfl E119 E136 (fun ρ hc hρ hρ2 => by clear hV hK hA; (first | (go_simp; done) | (go_simp; rfl))) ?_
      exact hK _ _ ⟨hs, hV.put (by show List.Nodup [0, 1, 2, 3, 4, 5, 6, 7, 8, 9, 10, 11, 12, 13, 14, 15, 16, 17, 18, 19, 20, 21, 22, 23, 24, 25, 26]; decide) (by show List.Nodup [111, 112, 113, 114, 115, 116, 117, 118, 119, 120, 121, 122, 123, 124, 125, 126, 127, 128, 129, 130, 131, 132, 133, 134, 135, 136, 137]; decide) 26 rfl (by decide) (by rw [hs]; decide), hA.val0 (by show ¬ 26 ∈ []; decide) (by show ¬ 137 ∈ []; decide)⟩
    | i' + 27, ho => simp at ho
  · intro L a W hI hall
    obtain ⟨hs', hV, hA⟩ := hI
    have ha : a = setA a0 [(111, a.eval (.tmp 111)), (112, a.eval (.tmp 112)), (113, a.eval (.tmp 113)), (114, a.eval (.tmp 114)), (115, a.eval (.tmp 115)), (116, a.eval (.tmp 116)), (117, a.eval (.tmp 117)), (118, a.eval (.tmp 118)), (119, a.eval (.tmp 119)), (120, a.eval (.tmp 120)), (121, a.eval (.tmp 121)), (122, a.eval (.tmp 122)), (123, a.eval (.tmp 123)), (124, a.eval (.tmp 124)), (125, a.eval (.tmp 125)), (126, a.eval (.tmp 126)), (127, a.eval (.tmp 127)), (128, a.eval (.tmp 128)), (129, a.eval (.tmp 129)), (130, a.eval (.tmp 130)), (131, a.eval (.tmp 131)), (132, a.eval (.tmp 132)), (133, a.eval (.tmp 133)), (134, a.eval (.tmp 134)), (135, a.eval (.tmp 135)), (136, a.eval (.tmp 136)), (137, a.eval (.tmp 137))] := hV.act (fun k hk => by rw [hs]; simp at hk; omega)
    rw [hV.get 0 rfl (hall 0 (by decide))] at ha
    rw [hV.get 1 rfl (hall 1 (by decide))] at ha
    rw [hV.get 2 rfl (hall 2 (by decide))] at ha
    rw [hV.get 3 rfl (hall 3 (by decide))] at ha
    rw [hV.get 4 rfl (hall 4 (by decide))] at ha
    rw [hV.get 5 rfl (hall 5 (by decide))] at ha
    rw [hV.get 6 rfl (hall 6 (by decide))] at ha
    rw [hV.get 7 rfl (hall 7 (by decide))] at ha
    rw [hV.get 8 rfl (hall 8 (by decide))] at ha
    rw [hV.get 9 rfl (hall 9 (by decide))] at ha
    rw [hV.get 10 rfl (hall 10 (by decide))] at ha
    rw [hV.get 11 rfl (hall 11 (by decide))] at ha
    rw [hV.get 12 rfl (hall 12 (by decide))] at ha
    rw [hV.get 13 rfl (hall 13 (by decide))] at ha
    rw [hV.get 14 rfl (hall 14 (by decide))] at ha
    rw [hV.get 15 rfl (hall 15 (by decide))] at ha
    rw [hV.get 16 rfl (hall 16 (by decide))] at ha
    rw [hV.get 17 rfl (hall 17 (by decide))] at ha
    rw [hV.get 18 rfl (hall 18 (by decide))] at ha
    rw [hV.get 19 rfl (hall 19 (by decide))] at ha
    rw [hV.get 20 rfl (hall 20 (by decide))] at ha
    rw [hV.get 21 rfl (hall 21 (by decide))] at ha
    rw [hV.get 22 rfl (hall 22 (by decide))] at ha
    rw [hV.get 23 rfl (hall 23 (by decide))] at ha
    rw [hV.get 24 rfl (hall 24 (by decide))] at ha
    rw [hV.get 25 rfl (hall 25 (by decide))] at ha
    rw [hV.get 26 rfl (hall 26 (by decide))] at ha
    rw [ha]
    exact hQ W hA.below
set_option maxHeartbeats 4000000 in
set_option maxRecDepth 100000 in
theorem pick_reg_false (g5 gm np n cl i k y : Nat) (al : Addr) (st ly lk : Int) (hst : (st == 2) = false) (hkn : k < np) (k1 : (k : Int) < (np : Int)) (k0 : (0 : Int) ≤ (k : Int)) (hyn : y < np) (y1 : (y : Int) < (np : Int)) (y0 : (0 : Int) ≤ (y : Int)) (hin : i < n) (i1 : (i : Int) < (n : Int)) (i0 : (0 : Int) ≤ (i : Int)) (hl : ¬ ly < lk) {Q : Exit → Act → World → Prop} (a0 : Act) (W0 : World) (hs : a0.tmps.size = 142) (hdf : a0.defers = []) (f5 : a0.eval (.tmp 5) = .pointer (some ⟨g5, 0, none⟩)) (f11 : a0.eval (.tmp 11) = .int .i64 (k : Int)) (f13 : a0.eval (.tmp 13) = .slice (some al) n cl) (f14 : a0.eval (.tmp 14) = .slice (some ⟨gm, 0, none⟩) np np) (f17 : a0.eval (.tmp 17) = .int .i64 (i : Int)) (h1 : W0.cell? ⟨g5, 1, none⟩ = some (.int .u8 st)) (hQ : ∀ (W : World), Below W0.heap.size W0 W → Q .normal (setA a0 [(111, .int .i64 (k : Int)), (112, .bool false), (113, .bool false), (114, .int .i64 (k : Int)), (115, .slice (some ⟨gm, 0, none⟩) np np), (116, .int .i64 (np : Int)), (117, .bool false), (118, .bool false), (119, .bool false), (120, .pointer (some ⟨g5, 1, none⟩)), (121, .int .u8 st), (122, .bool false), (123, .bool false), (124, undef), (125, undef), (126, undef), (127, undef), (128, undef), (129, undef), (130, undef), (131, undef), (132, undef), (133, undef), (134, undef), (135, undef), (136, .bool false), (137, .bool false)]) W) : (Code.region 19 #[{ dst := some 111, op := Op.move (Operand.tmp 11), type := 3, pos := "law.go:114", after := #[], guard := none }, { dst := some 112, op := Op.binOp BinOp.lss 3 (Operand.tmp 111) (Operand.const (Value.int IntKind.i64 0)) 3, type := 4, pos := "law.go:114", after := #[{ on := 0, ground := Ground.data }], guard := none }, { dst := some 113, op := Op.move (Operand.tmp 112), type := 4, pos := "law.go:114", after := #[{ on := 1, ground := Ground.data }], guard := none }, { dst := some 114, op := Op.move (Operand.tmp 11), type := 3, pos := "law.go:114", after := #[{ on := 2, ground := Ground.guard }], guard := some (2, false) }, { dst := some 115, op := Op.move (Operand.tmp 14), type := 111, pos := "law.go:114", after := #[{ on := 2, ground := Ground.guard }], guard := some (2, false) }, { dst := some 116, op := Op.call { callee := Callee.builtin Builtin.len, args := #[Operand.tmp 115], argTypes := #[111] }, type := 3, pos := "law.go:114", after := #[{ on := 4, ground := Ground.data }, { on := 2, ground := Ground.guard }], guard := some (2, false) }, { dst := some 117, op := Op.binOp BinOp.geq 3 (Operand.tmp 114) (Operand.tmp 116) 3, type := 4, pos := "law.go:114", after := #[{ on := 3, ground := Ground.data }, { on := 5, ground := Ground.data }, { on := 2, ground := Ground.guard }], guard := some (2, false) }, { dst := some 118, op := Op.pick (Operand.tmp 113) (Operand.const (Value.bool true)) (Operand.tmp 117), type := 4, pos := "law.go:114", after := #[{ on := 2, ground := Ground.data }, { on := 6, ground := Ground.data }], guard := none }, { dst := some 119, op := Op.move (Operand.tmp 118), type := 4, pos := "law.go:114", after := #[{ on := 7, ground := Ground.data }, { on := 2, ground := Ground.chain }], guard := none }, { dst := some 120, op := Op.fieldAddr 41 (Operand.tmp 5) 1, type := 0, pos := "law.go:114", after := #[{ on := 8, ground := Ground.guard }], guard := some (8, false) }, { dst := some 121, op := Op.load 5 (Operand.tmp 120), type := 5, pos := "law.go:114", after := #[{ on := 9, ground := Ground.data }, { on := 8, ground := Ground.guard }], guard := some (8, false) }, { dst := some 122, op := Op.binOp BinOp.eql 5 (Operand.tmp 121) (Operand.const (Value.int IntKind.u8 2)) 5, type := 4, pos := "law.go:114", after := #[{ on := 10, ground := Ground.data }, { on := 8, ground := Ground.guard }], guard := some (8, false) }, { dst := some 123, op := Op.move (Operand.tmp 122), type := 4, pos := "law.go:114", after := #[{ on := 11, ground := Ground.data }, { on := 8, ground := Ground.chain }, { on := 8, ground := Ground.guard }], guard := some (8, false) }, { dst := some 124, op := Op.move (Operand.tmp 14), type := 111, pos := "law.go:114", after := #[{ on := 12, ground := Ground.guard }], guard := some (12, true) }, { dst := some 125, op := Op.move (Operand.tmp 13), type := 99, pos := "law.go:114", after := #[{ on := 12, ground := Ground.guard }], guard := some (12, true) }, { dst := some 126, op := Op.move (Operand.tmp 17), type := 3, pos := "law.go:114", after := #[{ on := 12, ground := Ground.guard }], guard := some (12, true) }, { dst := some 127, op := Op.indexAddr 99 (Operand.tmp 125) (Operand.tmp 126), type := 0, pos := "law.go:114", after := #[{ on := 14, ground := Ground.data }, { on := 15, ground := Ground.data }, { on := 12, ground := Ground.guard }], guard := some (12, true) }, { dst := some 128, op := Op.load 3 (Operand.tmp 127), type := 3, pos := "law.go:114", after := #[{ on := 16, ground := Ground.data }, { on := 12, ground := Ground.guard }], guard := some (12, true) }, { dst := some 129, op := Op.indexAddr 111 (Operand.tmp 124) (Operand.tmp 128), type := 0, pos := "law.go:114", after := #[{ on := 13, ground := Ground.data }, { on := 17, ground := Ground.data }, { on := 12, ground := Ground.guard }], guard := some (12, true) }, { dst := some 130, op := Op.load 2 (Operand.tmp 129), type := 2, pos := "law.go:114", after := #[{ on := 18, ground := Ground.data }, { on := 12, ground := Ground.guard }], guard := some (12, true) }, { dst := some 131, op := Op.move (Operand.tmp 14), type := 111, pos := "law.go:114", after := #[{ on := 12, ground := Ground.guard }], guard := some (12, true) }, { dst := some 132, op := Op.move (Operand.tmp 11), type := 3, pos := "law.go:114", after := #[{ on := 12, ground := Ground.guard }], guard := some (12, true) }, { dst := some 133, op := Op.indexAddr 111 (Operand.tmp 131) (Operand.tmp 132), type := 0, pos := "law.go:114", after := #[{ on := 20, ground := Ground.data }, { on := 21, ground := Ground.data }, { on := 12, ground := Ground.guard }], guard := some (12, true) }, { dst := some 134, op := Op.load 2 (Operand.tmp 133), type := 2, pos := "law.go:114", after := #[{ on := 22, ground := Ground.data }, { on := 12, ground := Ground.guard }], guard := some (12, true) }, { dst := some 135, op := Op.binOp BinOp.lss 2 (Operand.tmp 130) (Operand.tmp 134) 2, type := 4, pos := "law.go:114", after := #[{ on := 19, ground := Ground.data }, { on := 23, ground := Ground.data }, { on := 12, ground := Ground.guard }], guard := some (12, true) }, { dst := some 136, op := Op.pick (Operand.tmp 123) (Operand.tmp 135) (Operand.const (Value.bool false)), type := 4, pos := "law.go:114", after := #[{ on := 12, ground := Ground.data }, { on := 24, ground := Ground.data }, { on := 8, ground := Ground.guard }], guard := some (8, false) }, { dst := some 137, op := Op.pick (Operand.tmp 119) (Operand.const (Value.bool true)) (Operand.tmp 136), type := 4, pos := "law.go:114", after := #[{ on := 8, ground := Ground.data }, { on := 25, ground := Ground.data }], guard := none }] true).wp Try.prog Q a0 W0 := by
  refine wp_region_inv_at (by kernel_rfl) (fun a0 L a W => a0.tmps.size = 142 ∧ VInv [(0, 111, .int .i64 (k : Int)), (1, 112, .bool false), (2, 113, .bool false), (3, 114, .int .i64 (k : Int)), (4, 115, .slice (some ⟨gm, 0, none⟩) np np), (5, 116, .int .i64 (np : Int)), (6, 117, .bool false), (7, 118, .bool false), (8, 119, .bool false), (9, 120, .pointer (some ⟨g5, 1, none⟩)), (10, 121, .int .u8 st), (11, 122, .bool false), (12, 123, .bool false), (13, 124, undef), (14, 125, undef), (15, 126, undef), (16, 127, undef), (17, 128, undef), (18, 129, undef), (19, 130, undef), (20, 131, undef), (21, 132, undef), (22, 133, undef), (23, 134, undef), (24, 135, undef), (25, 136, .bool false), (26, 137, .bool false)] [111, 112, 113, 114, 115, 116, 117, 118, 119, 120, 121, 122, 123, 124, 125, 126, 127, 128, 129, 130, 131, 132, 133, 134, 135, 136, 137] a0 L a ∧ FInv W0 [] L a W) (by kernel_rfl) ⟨hs, VInv.start _ _ _, FInv.start _ (below_drew (Below.refl _ _))⟩ ?_ ?_
  · intro L i' o a W K hI ho hL hdep0 hK
    obtain ⟨hs, hV, hA⟩ := hI
    have e5 := (hV.keep 5 (by decide)).trans f5
    have e11 := (hV.keep 11 (by decide)).trans f11
    have e13 := (hV.keep 13 (by decide)).trans f13
    have e14 := (hV.keep 14 (by decide)).trans f14
    have e17 := (hV.keep 17 (by decide)).trans f17
    have hdep := deps o hdep0
    clear hdep0
    match i', ho with
    | 0, ho =>
      simp only [List.getElem?_toArray, List.getElem?_cons_zero, List.getElem?_cons_succ, Option.some.injEq] at ho
      subst ho
      have E11 := e11
      refine stp_move rfl (by first | exact .inl rfl | exact .inr rfl) ?_
      rw [E11]
      exact hK _ _ ⟨hs, hV.put (by show List.Nodup [0, 1, 2, 3, 4, 5, 6, 7, 8, 9, 10, 11, 12, 13, 14, 15, 16, 17, 18, 19, 20, 21, 22, 23, 24, 25, 26]; decide) (by show List.Nodup [111, 112, 113, 114, 115, 116, 117, 118, 119, 120, 121, 122, 123, 124, 125, 126, 127, 128, 129, 130, 131, 132, 133, 134, 135, 136, 137]; decide) 0 rfl (by decide) (by rw [hs]; decide), hA.val0 (by show ¬ 0 ∈ []; decide) (by show ¬ 111 ∈ []; decide)⟩
    | 1, ho =>
      simp only [List.getElem?_toArray, List.getElem?_cons_zero, List.getElem?_cons_succ, Option.some.injEq] at ho
      subst ho
      have E111 := hV.get 0 rfl (hdep 0 (by decide))
      refine stp1 (v := .bool false) (w' := W) (.tmp 111) _ rfl E111 (fun ρ hc hρ => by clear hV hK hA; first | (go_simp; done) | (go_simp; rfl)) ?_
      exact hK _ _ ⟨hs, hV.put (by show List.Nodup [0, 1, 2, 3, 4, 5, 6, 7, 8, 9, 10, 11, 12, 13, 14, 15, 16, 17, 18, 19, 20, 21, 22, 23, 24, 25, 26]; decide) (by show List.Nodup [111, 112, 113, 114, 115, 116, 117, 118, 119, 120, 121, 122, 123, 124, 125, 126, 127, 128, 129, 130, 131, 132, 133, 134, 135, 136, 137]; decide) 1 rfl (by decide) (by rw [hs]; decide), hA.val0 (by show ¬ 1 ∈ []; decide) (by show ¬ 112 ∈ []; decide)⟩
    | 2, ho =>
      simp only [List.getElem?_toArray, List.getElem?_cons_zero, List.getElem?_cons_succ, Option.some.injEq] at ho
      subst ho
      have E112 := hV.get 1 rfl (hdep 1 (by decide))
      refine stp_move rfl (by first | exact .inl rfl | exact .inr rfl) ?_
      rw [E112]
      exact hK _ _ ⟨hs, hV.put (by show List.Nodup [0, 1, 2, 3, 4, 5, 6, 7, 8, 9, 10, 11, 12, 13, 14, 15, 16, 17, 18, 19, 20, 21, 22, 23, 24, 25, 26]; decide) (by show List.Nodup [111, 112, 113, 114, 115, 116, 117, 118, 119, 120, 121, 122, 123, 124, 125, 126, 127, 128, 129, 130, 131, 132, 133, 134, 135, 136, 137]; decide) 2 rfl (by decide) (by rw [hs]; decide), hA.val0 (by show ¬ 2 ∈ []; decide) (by show ¬ 113 ∈ []; decide)⟩
    | 3, ho =>
      simp only [List.getElem?_toArray, List.getElem?_cons_zero, List.getElem?_cons_succ, Option.some.injEq] at ho
      subst ho
      have E11 := e11
      have EG := hV.get 2 rfl (hdep 2 (by decide))
      refine stp_yes1 (s := 113) (v := .int .i64 (k : Int)) (w' := W) (.tmp 11) _ rfl rfl rfl EG E11 (fun ρ hc hρ => by clear hV hK hA; first | (go_simp; done) | (go_simp; rfl)) ?_
      exact hK _ _ ⟨hs, hV.put (by show List.Nodup [0, 1, 2, 3, 4, 5, 6, 7, 8, 9, 10, 11, 12, 13, 14, 15, 16, 17, 18, 19, 20, 21, 22, 23, 24, 25, 26]; decide) (by show List.Nodup [111, 112, 113, 114, 115, 116, 117, 118, 119, 120, 121, 122, 123, 124, 125, 126, 127, 128, 129, 130, 131, 132, 133, 134, 135, 136, 137]; decide) 3 rfl (by decide) (by rw [hs]; decide), hA.val0 (by show ¬ 3 ∈ []; decide) (by show ¬ 114 ∈ []; decide)⟩
    | 4, ho =>
      simp only [List.getElem?_toArray, List.getElem?_cons_zero, List.getElem?_cons_succ, Option.some.injEq] at ho
      subst ho
      have E14 := e14
      have EG := hV.get 2 rfl (hdep 2 (by decide))
      refine stp_yes1 (s := 113) (v := .slice (some ⟨gm, 0, none⟩) np np) (w' := W) (.tmp 14) _ rfl rfl rfl EG E14 (fun ρ hc hρ => by clear hV hK hA; first | (go_simp; done) | (go_simp; rfl)) ?_
      exact hK _ _ ⟨hs, hV.put (by show List.Nodup [0, 1, 2, 3, 4, 5, 6, 7, 8, 9, 10, 11, 12, 13, 14, 15, 16, 17, 18, 19, 20, 21, 22, 23, 24, 25, 26]; decide) (by show List.Nodup [111, 112, 113, 114, 115, 116, 117, 118, 119, 120, 121, 122, 123, 124, 125, 126, 127, 128, 129, 130, 131, 132, 133, 134, 135, 136, 137]; decide) 4 rfl (by decide) (by rw [hs]; decide), hA.val0 (by show ¬ 4 ∈ []; decide) (by show ¬ 115 ∈ []; decide)⟩
    | 5, ho =>
      simp only [List.getElem?_toArray, List.getElem?_cons_zero, List.getElem?_cons_succ, Option.some.injEq] at ho
      subst ho
      have E115 := hV.get 4 rfl (hdep 4 (by decide))
      have EG := hV.get 2 rfl (hdep 2 (by decide))
      refine stp_yes1 (s := 113) (v := .int .i64 (np : Int)) (w' := W) (.tmp 115) _ rfl rfl rfl EG E115 (fun ρ hc hρ => by clear hV hK hA; first | (go_simp; done) | (go_simp; rfl)) ?_
      exact hK _ _ ⟨hs, hV.put (by show List.Nodup [0, 1, 2, 3, 4, 5, 6, 7, 8, 9, 10, 11, 12, 13, 14, 15, 16, 17, 18, 19, 20, 21, 22, 23, 24, 25, 26]; decide) (by show List.Nodup [111, 112, 113, 114, 115, 116, 117, 118, 119, 120, 121, 122, 123, 124, 125, 126, 127, 128, 129, 130, 131, 132, 133, 134, 135, 136, 137]; decide) 5 rfl (by decide) (by rw [hs]; decide), hA.val0 (by show ¬ 5 ∈ []; decide) (by show ¬ 116 ∈ []; decide)⟩
    | 6, ho =>
      simp only [List.getElem?_toArray, List.getElem?_cons_zero, List.getElem?_cons_succ, Option.some.injEq] at ho
      subst ho
      have E114 := hV.get 3 rfl (hdep 3 (by decide))
      have E116 := hV.get 5 rfl (hdep 5 (by decide))
      have EG := hV.get 2 rfl (hdep 2 (by decide))
      refine stp_yes2 (s := 113) (v := .bool false) (w' := W) (.tmp 114) _ (.tmp 116) _ rfl rfl rfl EG E114 E116 (fun ρ hc hρ hρ2 => by clear hV hK hA; (first | (go_simp; done) | (go_simp; rfl))) ?_
      exact hK _ _ ⟨hs, hV.put (by show List.Nodup [0, 1, 2, 3, 4, 5, 6, 7, 8, 9, 10, 11, 12, 13, 14, 15, 16, 17, 18, 19, 20, 21, 22, 23, 24, 25, 26]; decide) (by show List.Nodup [111, 112, 113, 114, 115, 116, 117, 118, 119, 120, 121, 122, 123, 124, 125, 126, 127, 128, 129, 130, 131, 132, 133, 134, 135, 136, 137]; decide) 6 rfl (by decide) (by rw [hs]; decide), hA.val0 (by show ¬ 6 ∈ []; decide) (by show ¬ 117 ∈ []; decide)⟩
    | 7, ho =>
      simp only [List.getElem?_toArray, List.getElem?_cons_zero, List.getElem?_cons_succ, Option.some.injEq] at ho
      subst ho
      have E113 := hV.get 2 rfl (hdep 2 (by decide))
      have E117 := hV.get 6 rfl (hdep 6 (by decide))
      refine stp2 (v := .bool false) (w' := W) (.tmp 113) _ (.tmp 117) _ rfl E113 E117 (fun ρ hc hρ hρ2 => by clear hV hK hA; (first | (go_simp; done) | (go_simp; rfl))) ?_
      exact hK _ _ ⟨hs, hV.put (by show List.Nodup [0, 1, 2, 3, 4, 5, 6, 7, 8, 9, 10, 11, 12, 13, 14, 15, 16, 17, 18, 19, 20, 21, 22, 23, 24, 25, 26]; decide) (by show List.Nodup [111, 112, 113, 114, 115, 116, 117, 118, 119, 120, 121, 122, 123, 124, 125, 126, 127, 128, 129, 130, 131, 132, 133, 134, 135, 136, 137]; decide) 7 rfl (by decide) (by rw [hs]; decide), hA.val0 (by show ¬ 7 ∈ []; decide) (by show ¬ 118 ∈ []; decide)⟩
    | 8, ho =>
      simp only [List.getElem?_toArray, List.getElem?_cons_zero, List.getElem?_cons_succ, Option.some.injEq] at ho
      subst ho
      have E118 := hV.get 7 rfl (hdep 7 (by decide))
      refine stp_move rfl (by first | exact .inl rfl | exact .inr rfl) ?_
      rw [E118]
      exact hK _ _ ⟨hs, hV.put (by show List.Nodup [0, 1, 2, 3, 4, 5, 6, 7, 8, 9, 10, 11, 12, 13, 14, 15, 16, 17, 18, 19, 20, 21, 22, 23, 24, 25, 26]; decide) (by show List.Nodup [111, 112, 113, 114, 115, 116, 117, 118, 119, 120, 121, 122, 123, 124, 125, 126, 127, 128, 129, 130, 131, 132, 133, 134, 135, 136, 137]; decide) 8 rfl (by decide) (by rw [hs]; decide), hA.val0 (by show ¬ 8 ∈ []; decide) (by show ¬ 119 ∈ []; decide)⟩
    | 9, ho =>
      simp only [List.getElem?_toArray, List.getElem?_cons_zero, List.getElem?_cons_succ, Option.some.injEq] at ho
      subst ho
      have E5 := e5
      have EG := hV.get 8 rfl (hdep 8 (by decide))
      refine stp_yes1 (s := 119) (v := .pointer (some ⟨g5, 1, none⟩)) (w' := W) (.tmp 5) _ rfl rfl rfl EG E5 (fun ρ hc hρ => by clear hV hK hA; first | (go_simp; done) | (go_simp; rfl)) ?_
      exact hK _ _ ⟨hs, hV.put (by show List.Nodup [0, 1, 2, 3, 4, 5, 6, 7, 8, 9, 10, 11, 12, 13, 14, 15, 16, 17, 18, 19, 20, 21, 22, 23, 24, 25, 26]; decide) (by show List.Nodup [111, 112, 113, 114, 115, 116, 117, 118, 119, 120, 121, 122, 123, 124, 125, 126, 127, 128, 129, 130, 131, 132, 133, 134, 135, 136, 137]; decide) 9 rfl (by decide) (by rw [hs]; decide), hA.val0 (by show ¬ 9 ∈ []; decide) (by show ¬ 120 ∈ []; decide)⟩
    | 10, ho =>
      simp only [List.getElem?_toArray, List.getElem?_cons_zero, List.getElem?_cons_succ, Option.some.injEq] at ho
      subst ho
      have E120 := hV.get 9 rfl (hdep 9 (by decide))
      have EG := hV.get 8 rfl (hdep 8 (by decide))
      have hcl := (hA.below.cell (World.block_lt_of_cell? _ _ h1)).trans h1
      refine stp_yes1 (s := 119) (v := .int .u8 st) (w' := W) (.tmp 120) _ rfl rfl rfl EG E120 (fun ρ hc hρ => by clear hV hK hA; first | (go_simp; done) | (go_simp; rfl)) ?_
      exact hK _ _ ⟨hs, hV.put (by show List.Nodup [0, 1, 2, 3, 4, 5, 6, 7, 8, 9, 10, 11, 12, 13, 14, 15, 16, 17, 18, 19, 20, 21, 22, 23, 24, 25, 26]; decide) (by show List.Nodup [111, 112, 113, 114, 115, 116, 117, 118, 119, 120, 121, 122, 123, 124, 125, 126, 127, 128, 129, 130, 131, 132, 133, 134, 135, 136, 137]; decide) 10 rfl (by decide) (by rw [hs]; decide), hA.val0 (by show ¬ 10 ∈ []; decide) (by show ¬ 121 ∈ []; decide)⟩
    | 11, ho =>
      simp only [List.getElem?_toArray, List.getElem?_cons_zero, List.getElem?_cons_succ, Option.some.injEq] at ho
      subst ho
      have E121 := hV.get 10 rfl (hdep 10 (by decide))
      have EG := hV.get 8 rfl (hdep 8 (by decide))
      refine stp_yes1 (s := 119) (v := .bool false) (w' := W) (.tmp 121) _ rfl rfl rfl EG E121 (fun ρ hc hρ => by clear hV hK hA; first | (go_simp; done) | (go_simp; rfl)) ?_
      exact hK _ _ ⟨hs, hV.put (by show List.Nodup [0, 1, 2, 3, 4, 5, 6, 7, 8, 9, 10, 11, 12, 13, 14, 15, 16, 17, 18, 19, 20, 21, 22, 23, 24, 25, 26]; decide) (by show List.Nodup [111, 112, 113, 114, 115, 116, 117, 118, 119, 120, 121, 122, 123, 124, 125, 126, 127, 128, 129, 130, 131, 132, 133, 134, 135, 136, 137]; decide) 11 rfl (by decide) (by rw [hs]; decide), hA.val0 (by show ¬ 11 ∈ []; decide) (by show ¬ 122 ∈ []; decide)⟩
    | 12, ho =>
      simp only [List.getElem?_toArray, List.getElem?_cons_zero, List.getElem?_cons_succ, Option.some.injEq] at ho
      subst ho
      have E122 := hV.get 11 rfl (hdep 11 (by decide))
      have EG := hV.get 8 rfl (hdep 8 (by decide))
      refine stp_yes1 (s := 119) (v := .bool false) (w' := W) (.tmp 122) _ rfl rfl rfl EG E122 (fun ρ hc hρ => by clear hV hK hA; first | (go_simp; done) | (go_simp; rfl)) ?_
      exact hK _ _ ⟨hs, hV.put (by show List.Nodup [0, 1, 2, 3, 4, 5, 6, 7, 8, 9, 10, 11, 12, 13, 14, 15, 16, 17, 18, 19, 20, 21, 22, 23, 24, 25, 26]; decide) (by show List.Nodup [111, 112, 113, 114, 115, 116, 117, 118, 119, 120, 121, 122, 123, 124, 125, 126, 127, 128, 129, 130, 131, 132, 133, 134, 135, 136, 137]; decide) 12 rfl (by decide) (by rw [hs]; decide), hA.val0 (by show ¬ 12 ∈ []; decide) (by show ¬ 123 ∈ []; decide)⟩
    | 13, ho =>
      simp only [List.getElem?_toArray, List.getElem?_cons_zero, List.getElem?_cons_succ, Option.some.injEq] at ho
      subst ho
      have E14 := e14
      have EG := hV.get 12 rfl (hdep 12 (by decide))
      refine stp_skip (s := 123) rfl rfl rfl EG (by decide) ?_
      exact hK _ _ ⟨hs, hV.put (by show List.Nodup [0, 1, 2, 3, 4, 5, 6, 7, 8, 9, 10, 11, 12, 13, 14, 15, 16, 17, 18, 19, 20, 21, 22, 23, 24, 25, 26]; decide) (by show List.Nodup [111, 112, 113, 114, 115, 116, 117, 118, 119, 120, 121, 122, 123, 124, 125, 126, 127, 128, 129, 130, 131, 132, 133, 134, 135, 136, 137]; decide) 13 rfl (by decide) (by rw [hs]; decide), hA.val0 (by show ¬ 13 ∈ []; decide) (by show ¬ 124 ∈ []; decide)⟩
    | 14, ho =>
      simp only [List.getElem?_toArray, List.getElem?_cons_zero, List.getElem?_cons_succ, Option.some.injEq] at ho
      subst ho
      have E13 := e13
      have EG := hV.get 12 rfl (hdep 12 (by decide))
      refine stp_skip (s := 123) rfl rfl rfl EG (by decide) ?_
      exact hK _ _ ⟨hs, hV.put (by show List.Nodup [0, 1, 2, 3, 4, 5, 6, 7, 8, 9, 10, 11, 12, 13, 14, 15, 16, 17, 18, 19, 20, 21, 22, 23, 24, 25, 26]; decide) (by show List.Nodup [111, 112, 113, 114, 115, 116, 117, 118, 119, 120, 121, 122, 123, 124, 125, 126, 127, 128, 129, 130, 131, 132, 133, 134, 135, 136, 137]; decide) 14 rfl (by decide) (by rw [hs]; decide), hA.val0 (by show ¬ 14 ∈ []; decide) (by show ¬ 125 ∈ []; decide)⟩
    | 15, ho =>
      simp only [List.getElem?_toArray, List.getElem?_cons_zero, List.getElem?_cons_succ, Option.some.injEq] at ho
      subst ho
      have E17 := e17
      have EG := hV.get 12 rfl (hdep 12 (by decide))
      refine stp_skip (s := 123) rfl rfl rfl EG (by decide) ?_
      exact hK _ _ ⟨hs, hV.put (by show List.Nodup [0, 1, 2, 3, 4, 5, 6, 7, 8, 9, 10, 11, 12, 13, 14, 15, 16, 17, 18, 19, 20, 21, 22, 23, 24, 25, 26]; decide) (by show List.Nodup [111, 112, 113, 114, 115, 116, 117, 118, 119, 120, 121, 122, 123, 124, 125, 126, 127, 128, 129, 130, 131, 132, 133, 134, 135, 136, 137]; decide) 15 rfl (by decide) (by rw [hs]; decide), hA.val0 (by show ¬ 15 ∈ []; decide) (by show ¬ 126 ∈ []; decide)⟩
    | 16, ho =>
      simp only [List.getElem?_toArray, List.getElem?_cons_zero, List.getElem?_cons_succ, Option.some.injEq] at ho
      subst ho
      have E125 := hV.get 14 rfl (hdep 14 (by decide))
      have E126 := hV.get 15 rfl (hdep 15 (by decide))
      have EG := hV.get 12 rfl (hdep 12 (by decide))
      refine stp_skip (s := 123) rfl rfl rfl EG (by decide) ?_
      exact hK _ _ ⟨hs, hV.put (by show List.Nodup [0, 1, 2, 3, 4, 5, 6, 7, 8, 9, 10, 11, 12, 13, 14, 15, 16, 17, 18, 19, 20, 21, 22, 23, 24, 25, 26]; decide) (by show List.Nodup [111, 112, 113, 114, 115, 116, 117, 118, 119, 120, 121, 122, 123, 124, 125, 126, 127, 128, 129, 130, 131, 132, 133, 134, 135, 136, 137]; decide) 16 rfl (by decide) (by rw [hs]; decide), hA.val0 (by show ¬ 16 ∈ []; decide) (by show ¬ 127 ∈ []; decide)⟩
    | 17, ho =>
      simp only [List.getElem?_toArray, List.getElem?_cons_zero, List.getElem?_cons_succ, Option.some.injEq] at ho
      subst ho
      have E127 := hV.get 16 rfl (hdep 16 (by decide))
      have EG := hV.get 12 rfl (hdep 12 (by decide))
      refine stp_skip (s := 123) rfl rfl rfl EG (by decide) ?_
      exact hK _ _ ⟨hs, hV.put (by show List.Nodup [0, 1, 2, 3, 4, 5, 6, 7, 8, 9, 10, 11, 12, 13, 14, 15, 16, 17, 18, 19, 20, 21, 22, 23, 24, 25, 26]; decide) (by show List.Nodup [111, 112, 113, 114, 115, 116, 117, 118, 119, 120, 121, 122, 123, 124, 125, 126, 127, 128, 129, 130, 131, 132, 133, 134, 135, 136, 137]; decide) 17 rfl (by decide) (by rw [hs]; decide), hA.val0 (by show ¬ 17 ∈ []; decide) (by show ¬ 128 ∈ []; decide)⟩
    | 18, ho =>
      simp only [List.getElem?_toArray, List.getElem?_cons_zero, List.getElem?_cons_succ, Option.some.injEq] at ho
      subst ho
      have E124 := hV.get 13 rfl (hdep 13 (by decide))
      have E128 := hV.get 17 rfl (hdep 17 (by decide))
      have EG := hV.get 12 rfl (hdep 12 (by decide))
      refine stp_skip (s := 123) rfl rfl rfl EG (by decide) ?_
      exact hK _ _ ⟨hs, hV.put (by show List.Nodup [0, 1, 2, 3, 4, 5, 6, 7, 8, 9, 10, 11, 12, 13, 14, 15, 16, 17, 18, 19, 20, 21, 22, 23, 24, 25, 26]; decide) (by show List.Nodup [111, 112, 113, 114, 115, 116, 117, 118, 119, 120, 121, 122, 123, 124, 125, 126, 127, 128, 129, 130, 131, 132, 133, 134, 135, 136, 137]; decide) 18 rfl (by decide) (by rw [hs]; decide), hA.val0 (by show ¬ 18 ∈ []; decide) (by show ¬ 129 ∈ []; decide)⟩
    | 19, ho =>
      simp only [List.getElem?_toArray, List.getElem?_cons_zero, List.getElem?_cons_succ, Option.some.injEq] at ho
      subst ho
      have E129 := hV.get 18 rfl (hdep 18 (by decide))
      have EG := hV.get 12 rfl (hdep 12 (by decide))
      refine stp_skip (s := 123) rfl rfl rfl EG (by decide) ?_
      exact hK _ _ ⟨hs, hV.put (by show List.Nodup [0, 1, 2, 3, 4, 5, 6, 7, 8, 9, 10, 11, 12, 13, 14, 15, 16, 17, 18, 19, 20, 21, 22, 23, 24, 25, 26]; decide) (by show List.Nodup [111, 112, 113, 114, 115, 116, 117, 118, 119, 120, 121, 122, 123, 124, 125, 126, 127, 128, 129, 130, 131, 132, 133, 134, 135, 136, 137]; decide) 19 rfl (by decide) (by rw [hs]; decide), hA.val0 (by show ¬ 19 ∈ []; decide) (by show ¬ 130 ∈ []; decide)⟩
    | 20, ho =>
      simp only [List.getElem?_toArray, List.getElem?_cons_zero, List.getElem?_cons_succ, Option.some.injEq] at ho
      subst ho
      have E14 := e14
      have EG := hV.get 12 rfl (hdep 12 (by decide))
      refine stp_skip (s := 123) rfl rfl rfl EG (by decide) ?_
      exact hK _ _ ⟨hs, hV.put (by show List.Nodup [0, 1, 2, 3, 4, 5, 6, 7, 8, 9, 10, 11, 12, 13, 14, 15, 16, 17, 18, 19, 20, 21, 22, 23, 24, 25, 26]; decide) (by show List.Nodup [111, 112, 113, 114, 115, 116, 117, 118, 119, 120, 121, 122, 123, 124, 125, 126, 127, 128, 129, 130, 131, 132, 133, 134, 135, 136, 137]; decide) 20 rfl (by decide) (by rw [hs]; decide), hA.val0 (by show ¬ 20 ∈ []; decide) (by show ¬ 131 ∈ []; decide)⟩
    | 21, ho =>
      simp only [List.getElem?_toArray, List.getElem?_cons_zero, List.getElem?_cons_succ, Option.some.injEq] at ho
      subst ho
      have E11 := e11
      have EG := hV.get 12 rfl (hdep 12 (by decide))
      refine stp_skip (s := 123) rfl rfl rfl EG (by decide) ?_
      exact hK _ _ ⟨hs, hV.put (by show List.Nodup [0, 1, 2, 3, 4, 5, 6, 7, 8, 9, 10, 11, 12, 13, 14, 15, 16, 17, 18, 19, 20, 21, 22, 23, 24, 25, 26]; decide) (by show List.Nodup [111, 112, 113, 114, 115, 116, 117, 118, 119, 120, 121, 122, 123, 124, 125, 126, 127, 128, 129, 130, 131, 132, 133, 134, 135, 136, 137]; decide) 21 rfl (by decide) (by rw [hs]; decide), hA.val0 (by show ¬ 21 ∈ []; decide) (by show ¬ 132 ∈ []; decide)⟩
    | 22, ho =>
      simp only [List.getElem?_toArray, List.getElem?_cons_zero, List.getElem?_cons_succ, Option.some.injEq] at ho
      subst ho
      have E131 := hV.get 20 rfl (hdep 20 (by decide))
      have E132 := hV.get 21 rfl (hdep 21 (by decide))
      have EG := hV.get 12 rfl (hdep 12 (by decide))
      refine stp_skip (s := 123) rfl rfl rfl EG (by decide) ?_
      exact hK _ _ ⟨hs, hV.put (by show List.Nodup [0, 1, 2, 3, 4, 5, 6, 7, 8, 9, 10, 11, 12, 13, 14, 15, 16, 17, 18, 19, 20, 21, 22, 23, 24, 25, 26]; decide) (by show List.Nodup [111, 112, 113, 114, 115, 116, 117, 118, 119, 120, 121, 122, 123, 124, 125, 126, 127, 128, 129, 130, 131, 132, 133, 134, 135, 136, 137]; decide) 22 rfl (by decide) (by rw [hs]; decide), hA.val0 (by show ¬ 22 ∈ []; decide) (by show ¬ 133 ∈ []; decide)⟩
    | 23, ho =>
      simp only [List.getElem?_toArray, List.getElem?_cons_zero, List.getElem?_cons_succ, Option.some.injEq] at ho
      subst ho
      have E133 := hV.get 22 rfl (hdep 22 (by decide))
      have EG := hV.get 12 rfl (hdep 12 (by decide))
      refine stp_skip (s := 123) rfl rfl rfl EG (by decide) ?_
      exact hK _ _ ⟨hs, hV.put (by show List.Nodup [0, 1, 2, 3, 4, 5, 6, 7, 8, 9, 10, 11, 12, 13, 14, 15, 16, 17, 18, 19, 20, 21, 22, 23, 24, 25, 26]; decide) (by show List.Nodup [111, 112, 113, 114, 115, 116, 117, 118, 119, 120, 121, 122, 123, 124, 125, 126, 127, 128, 129, 130, 131, 132, 133, 134, 135, 136, 137]; decide) 23 rfl (by decide) (by rw [hs]; decide), hA.val0 (by show ¬ 23 ∈ []; decide) (by show ¬ 134 ∈ []; decide)⟩
    | 24, ho =>
      simp only [List.getElem?_toArray, List.getElem?_cons_zero, List.getElem?_cons_succ, Option.some.injEq] at ho
      subst ho
      have E130 := hV.get 19 rfl (hdep 19 (by decide))
      have E134 := hV.get 23 rfl (hdep 23 (by decide))
      have EG := hV.get 12 rfl (hdep 12 (by decide))
      refine stp_skip (s := 123) rfl rfl rfl EG (by decide) ?_
      exact hK _ _ ⟨hs, hV.put (by show List.Nodup [0, 1, 2, 3, 4, 5, 6, 7, 8, 9, 10, 11, 12, 13, 14, 15, 16, 17, 18, 19, 20, 21, 22, 23, 24, 25, 26]; decide) (by show List.Nodup [111, 112, 113, 114, 115, 116, 117, 118, 119, 120, 121, 122, 123, 124, 125, 126, 127, 128, 129, 130, 131, 132, 133, 134, 135, 136, 137]; decide) 24 rfl (by decide) (by rw [hs]; decide), hA.val0 (by show ¬ 24 ∈ []; decide) (by show ¬ 135 ∈ []; decide)⟩
    | 25, ho =>
      simp only [List.getElem?_toArray, List.getElem?_cons_zero, List.getElem?_cons_succ, Option.some.injEq] at ho
      subst ho
      have E123 := hV.get 12 rfl (hdep 12 (by decide))
      have E135 := hV.get 24 rfl (hdep 24 (by decide))
      have EG := hV.get 8 rfl (hdep 8 (by decide))
      refine stp_yes2 (s := 119) (v := .bool false) (w' := W) (.tmp 123) _ (.tmp 135) _ rfl rfl rfl EG E123 E135 (fun ρ hc hρ hρ2 => by clear hV hK hA; (first | (go_simp; done) | (go_simp; rfl))) ?_
      exact hK _ _ ⟨hs, hV.put (by show List.Nodup [0, 1, 2, 3, 4, 5, 6, 7, 8, 9, 10, 11, 12, 13, 14, 15, 16, 17, 18, 19, 20, 21, 22, 23, 24, 25, 26]; decide) (by show List.Nodup [111, 112, 113, 114, 115, 116, 117, 118, 119, 120, 121, 122, 123, 124, 125, 126, 127, 128, 129, 130, 131, 132, 133, 134, 135, 136, 137]; decide) 25 rfl (by decide) (by rw [hs]; decide), hA.val0 (by show ¬ 25 ∈ []; decide) (by show ¬ 136 ∈ []; decide)⟩
    | 26, ho =>
      simp only [List.getElem?_toArray, List.getElem?_cons_zero, List.getElem?_cons_succ, Option.some.injEq] at ho
      subst ho
      have E119 := hV.get 8 rfl (hdep 8 (by decide))
      have E136 := hV.get 25 rfl (hdep 25 (by decide))
      refine stp2 (v := .bool false) (w' := W) (.tmp 119) _ (.tmp 136) _ rfl E119 E136 (fun ρ hc hρ hρ2 => by clear hV hK hA; (first | (go_simp; done) | (go_simp; rfl))) ?_
      exact hK _ _ ⟨hs, hV.put (by show List.Nodup [0, 1, 2, 3, 4, 5, 6, 7, 8, 9, 10, 11, 12, 13, 14, 15, 16, 17, 18, 19, 20, 21, 22, 23, 24, 25, 26]; decide) (by show List.Nodup [111, 112, 113, 114, 115, 116, 117, 118, 119, 120, 121, 122, 123, 124, 125, 126, 127, 128, 129, 130, 131, 132, 133, 134, 135, 136, 137]; decide) 26 rfl (by decide) (by rw [hs]; decide), hA.val0 (by show ¬ 26 ∈ []; decide) (by show ¬ 137 ∈ []; decide)⟩
    | i' + 27, ho => simp at ho
  · intro L a W hI hall
    obtain ⟨hs', hV, hA⟩ := hI
    have ha : a = setA a0 [(111, a.eval (.tmp 111)), (112, a.eval (.tmp 112)), (113, a.eval (.tmp 113)), (114, a.eval (.tmp 114)), (115, a.eval (.tmp 115)), (116, a.eval (.tmp 116)), (117, a.eval (.tmp 117)), (118, a.eval (.tmp 118)), (119, a.eval (.tmp 119)), (120, a.eval (.tmp 120)), (121, a.eval (.tmp 121)), (122, a.eval (.tmp 122)), (123, a.eval (.tmp 123)), (124, a.eval (.tmp 124)), (125, a.eval (.tmp 125)), (126, a.eval (.tmp 126)), (127, a.eval (.tmp 127)), (128, a.eval (.tmp 128)), (129, a.eval (.tmp 129)), (130, a.eval (.tmp 130)), (131, a.eval (.tmp 131)), (132, a.eval (.tmp 132)), (133, a.eval (.tmp 133)), (134, a.eval (.tmp 134)), (135, a.eval (.tmp 135)), (136, a.eval (.tmp 136)), (137, a.eval (.tmp 137))] := hV.act (fun k hk => by rw [hs]; simp at hk; omega)
    rw [hV.get 0 rfl (hall 0 (by decide))] at ha
    rw [hV.get 1 rfl (hall 1 (by decide))] at ha
    rw [hV.get 2 rfl (hall 2 (by decide))] at ha
    rw [hV.get 3 rfl (hall 3 (by decide))] at ha
    rw [hV.get 4 rfl (hall 4 (by decide))] at ha
    rw [hV.get 5 rfl (hall 5 (by decide))] at ha
    rw [hV.get 6 rfl (hall 6 (by decide))] at ha
    rw [hV.get 7 rfl (hall 7 (by decide))] at ha
    rw [hV.get 8 rfl (hall 8 (by decide))] at ha
    rw [hV.get 9 rfl (hall 9 (by decide))] at ha
    rw [hV.get 10 rfl (hall 10 (by decide))] at ha
    rw [hV.get 11 rfl (hall 11 (by decide))] at ha
    rw [hV.get 12 rfl (hall 12 (by decide))] at ha
    rw [hV.get 13 rfl (hall 13 (by decide))] at ha
    rw [hV.get 14 rfl (hall 14 (by decide))] at ha
    rw [hV.get 15 rfl (hall 15 (by decide))] at ha
    rw [hV.get 16 rfl (hall 16 (by decide))] at ha
    rw [hV.get 17 rfl (hall 17 (by decide))] at ha
    rw [hV.get 18 rfl (hall 18 (by decide))] at ha
    rw [hV.get 19 rfl (hall 19 (by decide))] at ha
    rw [hV.get 20 rfl (hall 20 (by decide))] at ha
    rw [hV.get 21 rfl (hall 21 (by decide))] at ha
    rw [hV.get 22 rfl (hall 22 (by decide))] at ha
    rw [hV.get 23 rfl (hall 23 (by decide))] at ha
    rw [hV.get 24 rfl (hall 24 (by decide))] at ha
    rw [hV.get 25 rfl (hall 25 (by decide))] at ha
    rw [hV.get 26 rfl (hall 26 (by decide))] at ha
    rw [ha]
    exact hQ W hA.below
end Go.Proofs.Ytaoflcmjmhfblaa.R
/- RankPick: the walk. -/
namespace Go.Proofs.Ytaoflcmjmhfblaa.R
open Go.RowKit Go.Proofs.YtaoflcmjmhfblaaW.PrintWords Go.Proofs.YtaoflcmjmhfblaaW.PrintLast Go.Proofs.YtaoflcmjmhfblaaW.PrintMore Go.Proofs.Ytaoflcmjmhfblaa.H Go.Shelf
set_option linter.unusedVariables false
set_option linter.unusedSimpArgs false
theorem infoI64 : (Try.prog.info? 2).map (fun i => (i.zero, i.size, i.bytes)) = some (some (.int .i64 0), 1, 8) := by kernel_rfl
/-- What is filled in so far. -/
def LdOk (np : Nat) (ls : List Int) (i : Nat) (cs : Array Value) : Prop := cs.size = np ∧ ∀ j, j < np → cs[j]? = some (.int .i64 (if j < i then ls.getD j 0 else 0))
theorem ld_start (np : Nat) (ls : List Int) : LdOk np ls 0 (madeCells #[.int .i64 0] np) := by
  refine ⟨by simp [madeCells], fun j hj => ?_⟩
  simp [madeCells, hj, Nat.mod_one]
theorem ld_step {np : Nat} {ls : List Int} {i : Nat} {cs : Array Value} (h : LdOk np ls i cs) : LdOk np ls (i + 1) (cs.setIfInBounds i (.int .i64 (ls.getD i 0))) := by
  refine ⟨by simpa using h.1, fun j hj => ?_⟩
  rw [Array.getElem?_setIfInBounds]
  by_cases e : i = j
  · subst e
    rw [if_pos rfl, if_pos (by rw [h.1]; exact hj), if_pos (by omega)]
  · rw [if_neg e, h.2 j hj]
    by_cases h1 : j < i
    · rw [if_pos h1, if_pos (by omega)]
    · rw [if_neg h1, if_neg (by omega)]
theorem ld_end {np : Nat} {ls : List Int} {i : Nat} {cs : Array Value} (h : LdOk np ls i cs) (hi : i = min ls.length np) : ∀ j, j < np → cs[j]? = some (.int .i64 (loadI ls (j : Int))) := by
  intro j hj
  rw [h.2 j hj]
  congr 2
  unfold loadI
  rw [Int.toNat_natCast]
  by_cases h1 : j < i
  · rw [if_pos h1, if_pos (by omega)]
  · rw [if_neg h1, if_neg (by omega)]
theorem order_unique {st : Int} {ps : List PoolV} {qs : List QuoteV} {spot : Bool} {now : Int} {L M : List Int} (h : OrderS st ps qs (opensL ps qs spot now) L) (h' : OrderS st ps qs (opensL ps qs spot now) M) : L = M :=
  order_alone rfl (fun _ _ => rfl) h h'
/-- Which one is asked. -/
structure PickOk (st sp : Int) (ls L : List Int) (m : Nat) (k : Int) : Prop where
  low : 1 ≤ m
  high : m ≤ L.length
  cut : ∀ i : Nat, i < L.length → (i = 0 ∨ (i : Int) < sp ↔ i < m)
  mem : k ∈ L.take m
  least : st = 2 → ∀ j, j < m → ¬ loadI ls (L.getD j 0) < loadI ls k
  first : st ≠ 2 → k = L.getD 0 0
theorem pick_law (st sp : Int) (ls L : List Int) (hne : ¬ L = []) : PickOk st sp ls L (spreadN sp L.length) (pickP st sp ls L) := by
  have hn : 1 ≤ L.length := by
    rcases Nat.eq_zero_or_pos L.length with e | e
    · exact absurd (List.length_eq_zero_iff.1 e) hne
    · exact e
  have hs := @spread_in sp L.length hn
  have hm1 : 1 ≤ spreadN sp L.length := by unfold spreadN; omega
  have hm2 : spreadN sp L.length ≤ L.length := by unfold spreadN; omega
  have hcut : ∀ i : Nat, i < L.length → (i = 0 ∨ (i : Int) < sp ↔ i < spreadN sp L.length) := fun i hi => by
    unfold spreadN clampI at *
    omega
  obtain ⟨m, hm⟩ : ∃ m, spreadN sp L.length = m := ⟨_, rfl⟩
  unfold pickP
  rw [if_neg hne]
  rw [hm] at hm1 hm2 hcut ⊢
  have hlt : (L.take m).length = m := by rw [List.length_take]; omega
  refine ⟨hm1, hm2, hcut, ?_, fun e j hj => ?_, fun e => by rw [if_neg e]⟩
  · by_cases e : st = 2
    · rw [if_pos e]
      exact minF_mem (m - 1) (by omega)
    · rw [if_neg e]
      have h : L.getD 0 0 = (L.take m).getD 0 0 := by
        simp [List.getD_eq_getElem?_getD, List.getElem?_take]
        rw [if_pos (by omega)]
      rw [h]
      exact getD_mem (by omega)
  · rw [if_pos e]
    have h := minF_least (loadI ls) (L.take m) (m - 1) j (by omega)
    have e2 : (L.take m).getD j 0 = L.getD j 0 := by
      simp [List.getD_eq_getElem?_getD, List.getElem?_take, hj]
    rw [e2] at h
    show ¬ _ < loadI ls (minF (fun i k => cmpI (loadI ls i) (loadI ls k)) (L.take m) (m - 1))
    omega
set_option maxHeartbeats 16000000 in
set_option maxRecDepth 100000 in
theorem rankPick_calls (cs : Array Value) (Ap Aq Al : Option Addr) (cp cq cl : Nat) (st sp : Int) (ps : List PoolV) (qs : List QuoteV) (ls : List Int) (spot : Bool) (now : Int) (w : World)
    (hcf : CfF cs Ap ps.length cp st sp) (hps : Kd.C kPool w Ap ps.length ps) (hqs : Kd.C kQuote w Aq qs.length qs) (hls : Kd.C (Kd.int .i64) w Al ls.length ls) (hsz : ps.length * 40 ≤ 140737488355328) :
    Calls Try.prog 13 #[.agg cs, .slice Aq qs.length cq, .slice Al ls.length cl, .bool spot, .int .u64 now] w fun e w' => e = .returned (.bool true) ∧ Below w.heap.size w w' := by
  have KO := Lib.hid (show ∀ W, Below w.heap.size w W → _ from fun W hW => order_calls cs Ap Aq cp cq st sp ps qs spot now W hcf (Kd.C_below hps hW) (Kd.C_below hqs hW) hsz)
  have KP := Lib.hid (show ∀ W, Below w.heap.size w W → _ from fun W hW => pick_calls cs Ap Aq Al cp cq cl st sp ps qs ls spot now W hcf (Kd.C_below hps hW) (Kd.C_below hqs hW) (Kd.C_below hls hW) hsz)
  have HIN := Lib.hid (show ∀ L, OrderS st ps qs (opensL ps qs spot now) L → ∀ x ∈ L, InP ps qs x from fun L h x hx => (opens_in ((order_perm h (fun e => by rw [e] at hx; cases hx)).mem_iff.1 hx)).1)
  have HUN := Lib.hid (show ∀ L M, OrderS st ps qs (opensL ps qs spot now) L → OrderS st ps qs (opensL ps qs spot now) M → L = M from fun L M h h' => order_unique h h')
  obtain ⟨l, hl⟩ : ∃ l, opensL ps qs spot now = l := ⟨_, rfl⟩
  rw [hl] at KO KP HIN HUN
  have HNP := Lib.hid (show ∀ i : Int, InP ps qs i → 0 ≤ i ∧ i < ps.length from fun i h => ⟨h.1, h.2.1⟩)
  have HCF := Lib.hid hcf
  have HLS := Lib.hid hls
  obtain ⟨np, hnp⟩ : ∃ n, ps.length = n := ⟨_, rfl⟩
  obtain ⟨nq, hnq⟩ : ∃ n, qs.length = n := ⟨_, rfl⟩
  obtain ⟨nl, hnl⟩ : ∃ n, ls.length = n := ⟨_, rfl⟩
  rw [hnp] at HCF HNP
  rw [hnq] at KO
  rw [hnq, hnl] at KP
  rw [hnq, hnl]
  rw [hnl] at HLS
  have hmL := Kd.C_max HLS.out
  have HNL := Lib.hid hnl
  clear hcf hps hqs hls hsz hl hnp hnq hnl
  have KG := Lib.hid (fun W => great_calls cs Ap Aq np cp nq cq st sp W HCF.out)
  go_enter Try.func13, Try.ntmps13
  go_upto_region 1 with fail
  refine gen_w (fun W => W.heap[w.heap.size]? = some (.cells cs 41 (0, 0)) ∧ Below w.heap.size w W) ⟨heap_alloc_new _ _, below_alloc (Below.refl _ _) _⟩ ?_
  rintro W ⟨h0, hB⟩
  have H0 := Lib.hid h0
  have HB := Lib.hid hB
  clear h0 hB
  by_cases hg : 70 < np ∨ 70 < nq
  · rw [decide_eq_true hg] at KG
    clear hg
    go_wp2_with (first
      | (go_at_call 48; refine (lives_calls _).mono ?_; rintro e w2 ⟨rfl, hb⟩; have HB2 := Lib.hid (below_step HB1.out hb); clear hb)
      | (go_at_call 47; refine (KG.out _).mono ?_; rintro e w1 ⟨rfl, hb⟩; have HB1 := Lib.hid (below_step HB.out hb); have H01 := Lib.hid (blk_call hb H0.out); clear hb)
      | ((with_reducible refine gate_load 41 rfl ?_); refine wpList_load_row rfl 41 _ rfl _ rfl 41 _ _ _ H0.out Try.underlying41 rfl (by rw [HCF.out.size]; kernel_rfl) ?_))
    go_ret
    exact ⟨rfl, HB2.out⟩
  rw [decide_eq_false hg] at KG
  have hp70 : np ≤ 70 := by omega
  clear hg
  go_upto_region 5 with (first
    | (go_at_call 49; refine (KO.out _ HB2.out).mono ?_; rintro e w3 ⟨A3, c3, M, rfl, hc3, hC3, hb, hS⟩; obtain rfl := HUN.out _ _ HS.out hS; have HB3 := Lib.hid (below_step HB2.out hb); have H03 := Lib.hid (blk_call hb H02.out); have HC := Lib.hid hC3; clear hb hC3 hc3 hS)
    | (go_at_call 54; refine (KP.out _ HB1.out).mono ?_; rintro e w2 ⟨L, rfl, hb, hS⟩; have HB2 := Lib.hid (below_step HB1.out hb); have H02 := Lib.hid (blk_call hb H01.out); have HS := Lib.hid hS; clear hb hS)
    | (go_at_call 47; refine (KG.out _).mono ?_; rintro e w1 ⟨rfl, hb⟩; have HB1 := Lib.hid (below_step HB.out hb); have H01 := Lib.hid (blk_call hb H0.out); clear hb)
    | ((with_reducible refine gate_load 41 rfl ?_); refine wpList_load_row rfl 41 _ rfl _ rfl 41 _ _ _ H02.out Try.underlying41 rfl (by rw [HCF.out.size]; kernel_rfl) ?_)
    | ((with_reducible refine gate_load 41 rfl ?_); refine wpList_load_row rfl 41 _ rfl _ rfl 41 _ _ _ H01.out Try.underlying41 rfl (by rw [HCF.out.size]; kernel_rfl) ?_)
    | ((with_reducible refine gate_load 41 rfl ?_); refine wpList_load_row rfl 41 _ rfl _ rfl 41 _ _ _ H0.out Try.underlying41 rfl (by rw [HCF.out.size]; kernel_rfl) ?_))
  clear KO KP KG HUN
  obtain ⟨n, hn⟩ : ∃ n, L.length = n := ⟨_, rfl⟩
  rw [hn] at HC ⊢
  by_cases hL : L = []
  · subst hL
    obtain rfl : n = 0 := hn.symm
    rw [show pickB ([] : List Int) = false from rfl, show pickP st sp ls [] = 0 from rfl]
    clear hn HC
    go_wp2_with (go_at_call 48; refine (lives_calls _).mono ?_; rintro e w4 ⟨rfl, hb⟩; have HB4 := Lib.hid (below_step HB3.out hb); clear hb)
    go_ret
    exact ⟨rfl, HB4.out⟩
  have hpb : pickB L = true := by
    unfold pickB
    cases L
    · exact absurd rfl hL
    · rfl
  have hpk := pick_law st sp ls L hL
  rw [hpb]
  obtain ⟨kk, hkk⟩ : ∃ k, pickP st sp ls L = k := ⟨_, rfl⟩
  obtain ⟨m, hmm⟩ : ∃ m, spreadN sp L.length = m := ⟨_, rfl⟩
  rw [hkk, hmm] at hpk
  rw [hkk]
  have hz : ¬ n = 0 := fun e => hL (List.length_eq_zero_iff.1 (hn.trans e))
  have hin := HNP.out _ (HIN.out L HS.out _ (List.mem_of_mem_take hpk.mem))
  obtain ⟨k, rfl⟩ : ∃ m : Nat, kk = m := ⟨kk.toNat, by omega⟩
  have hkn : k < np := by omega
  have HPK := Lib.hid hpk
  have HN := Lib.hid hn
  have hz1 : ((n : Int) == 0) = false := by simpa using hz
  have hc0 := (blk_cell H03.out 0).trans HCF.out.c0
  have hc1 := (blk_cell H03.out 1).trans HCF.out.c1
  have hmk := print_make_of (P := Try.prog) 111 2 (.int .i64 0) 8 Try.underlying111 infoI64 rfl (by decide) np (by omega)
  have hmx := Kd.C_max HC.out
  obtain ⟨al, ea, hx0⟩ := loadInt HC.out 0 (by omega)
  rw [add_zeroA] at hx0
  subst ea
  have HIX := Lib.hid (show ∀ i, i < n → 0 ≤ L.getD i 0 ∧ L.getD i 0 < np from fun i hi => HNP.out _ (HIN.out L HS.out _ (getD_mem (by rw [HN.out]; exact hi))))
  have hfst := hpk.first
  clear hpk hpb hkk hmm hin hL hn HIN HNP
  by_cases e2 : st = 2
  · subst e2
    clear hfst
    go_upto_region 10 with fail
    refine gen_w (fun W => W.heap[w3.heap.size]? = some (.cells (madeCells #[.int .i64 0] np) 2 (0, 0)) ∧ Below w3.heap.size w3 W) ⟨heap_alloc_new _ _, below_alloc (Below.refl _ _) _⟩ ?_
    rintro w4 ⟨hM, hb⟩
    have HM4 := Lib.hid hM
    have HB4 := Lib.hid hb
    clear hM hb hmk hc0 hc1 hx0
    go_wp2_with fail
    go_loopw [15] (fun v15 wr => ∃ (i : Nat) (ms : Array Value), i ≤ min nl np ∧ v15 = .int .i64 i ∧ Hid (Below w3.heap.size w3 wr) ∧ Hid (wr.heap[w3.heap.size]? = some (.cells ms 2 (0, 0))) ∧ Hid (LdOk np ls i ms)) (fun v15 _ => min nl np - (intOf v15).toNat)
    case atStart => exact ⟨0, _, Nat.zero_le _, rfl, HB4, HM4, Lib.hid (ld_start np ls)⟩
    case round =>
      clear HM4 HB4
      obtain ⟨i, ms, hi, rfl, HBr, HMr, HMO⟩ := hrel
      by_cases hlt : i < min nl np
      · have l1 : (i : Int) < (nl : Int) := by omega
        have l2 : (i : Int) < (np : Int) := by omega
        have l0 : (0 : Int) ≤ (i : Int) := by omega
        obtain ⟨bd, eb, hci⟩ := loadInt (Kd.C_below HLS.out (below_step HB3.out HBr.out)) i (by omega)
        subst eb
        have HMO2 := Lib.hid (ld_step HMO.out)
        obtain ⟨x, hx⟩ : ∃ x, ls.getD i 0 = x := ⟨_, rfl⟩
        rw [hx] at hci HMO2
        have HSZ := Lib.hid (show i < ms.size by rw [HMO.out.1]; omega)
        clear hx HMO
        go_wp2_with ((with_reducible refine gate_storeT 2 rfl ?_); refine bx_store1 rfl 2 (.tmp 85) (.tmp 84) rfl w3.heap.size i rfl (.int .i64 x) rfl 2 ms HMr.out (by kernel_rfl) HSZ.out rfl (ms.setIfInBounds i (.int .i64 x)) rfl HBr.out (Nat.le_refl _) ?_; intro w5 hga hsz hoth hb; have HM5 := Lib.hid hga; have HB5 := Lib.hid hb; clear hga hsz hoth hb)
        exact ⟨⟨i + 1, _, by omega, by go_num, HB5, HM5, HMO2⟩, by simp only [intOf]; omega⟩
      · by_cases l1 : (i : Int) < (nl : Int)
        · have l2 : ¬ (i : Int) < (np : Int) := by omega
          have hms := ld_end HMO.out (by rw [HNL.out]; omega)
          have HMS := Lib.hid hms
          clear hms HMO
          have HR0 := Lib.hid (blk_call HBr.out H03.out)
          have d0 := (blk_cell HR0.out 1).trans HCF.out.c1
          have d2 := (blk_cell HR0.out 2).trans HCF.out.c2
          have dk := (blk_cell HMr.out k).trans (HMS.out k hkn)
          obtain ⟨lk, hlk⟩ : ∃ x, loadI ls (k : Int) = x := ⟨_, rfl⟩
          rw [hlk] at dk
          have HLK := Lib.hid hlk
          clear hlk
          have D0 := Lib.hid d0
          have D2 := Lib.hid d2
          have DK := Lib.hid dk
          clear d0 d2 dk
          go_wp2_with fail
          go_loopw [16, 17] (fun v16 v17 wq => ∃ i : Nat, i ≤ m ∧ v17 = .int .i64 i ∧ v16 = .bool (decide ((k : Int) ∈ L.take i)) ∧ Hid (Below wr.heap.size wr wq)) (fun _ v17 _ => m - (intOf v17).toNat)
          case atStart => exact ⟨0, Nat.zero_le _, rfl, by simp, Lib.hid (Below.refl _ _)⟩
          case round =>
            obtain ⟨i, hi, rfl, rfl, HBQ⟩ := hrel
            have d0 := (HBQ.out.cell (World.block_lt_of_cell? _ _ D0.out)).trans D0.out
            have d2 := (HBQ.out.cell (World.block_lt_of_cell? _ _ D2.out)).trans D2.out
            have dk := (HBQ.out.cell (World.block_lt_of_cell? _ _ DK.out)).trans DK.out
            have hmn := HPK.out.high
            rw [HN.out] at hmn
            by_cases hlt : i < m
            · have hin : i < n := by omega
              have hct := (HPK.out.cut i (by rw [HN.out]; omega)).2 hlt
              obtain ⟨al', ea', hxi⟩ := loadInt (Kd.C_below (Kd.C_below HC.out HBr.out) HBQ.out) i hin
              obtain rfl := Option.some.inj ea'
              clear ea'
              have hiy := HIX.out i hin
              have hts := take_step (L := L) (i := i) (by rw [HN.out]; exact hin)
              have hlst := fun e => HPK.out.least e i hlt
              obtain ⟨y', hy'⟩ : ∃ x, L.getD i 0 = x := ⟨_, rfl⟩
              rw [hy'] at hxi hiy hts hlst
              obtain ⟨y, rfl⟩ : ∃ m : Nat, y' = m := ⟨y'.toNat, by omega⟩
              rw [HLK.out] at hlst
              have dy := (blk_cell (blk_call HBQ.out HMr.out) y).trans (HMS.out y (by omega))
              obtain ⟨ly, hly⟩ : ∃ x, loadI ls (y : Int) = x := ⟨_, rfl⟩
              rw [hly] at dy hlst
              clear hly hy'
              have hnext : decide ((k : Int) ∈ L.take (i + 1)) = (decide ((k : Int) ∈ L.take i) || decide ((y : Int) = (k : Int))) := by
                rw [hts, Bool.eq_iff_iff]
                simp only [decide_eq_true_eq, Bool.or_eq_true, List.mem_append, List.mem_singleton]
                constructor <;> (intro h; rcases h with h | h <;> simp [h])
              obtain ⟨b1, hb1⟩ : ∃ b, decide ((k : Int) ∈ L.take i) = b := ⟨_, rfl⟩
              rw [hb1] at hnext ⊢
              clear hts hb1
              have il1 : (i : Int) < (n : Int) := by omega
              have il0 : (0 : Int) ≤ (i : Int) := by omega
              have ys1 : (y : Int) < (np : Int) := by omega
              have ys0 : (0 : Int) ≤ (y : Int) := by omega
              have ks1 : (k : Int) < (np : Int) := by omega
              have ks0 : (0 : Int) ≤ (k : Int) := by omega
              have ks2 : ¬ (k : Int) < 0 := by omega
              have ks3 : ¬ (k : Int) ≥ (np : Int) := by omega
              have hl2 : ¬ ly < lk := hlst rfl
              have REGQ := 0
              by_cases hi0 : i = 0
              · have hf1 : ((i : Int) == 0) = true := by simp [hi0]
                clear hct hi0
                cases b1
                · by_cases hky : (y : Int) = (k : Int)
                  · have hky2 : ((y : Int) == (k : Int)) = true := by simpa using hky
                    have HNX := Lib.hid (show decide ((k : Int) ∈ L.take (i + 1)) = true by rw [hnext]; simp [hky])
                    clear hnext
                    clear hky
                    clear REGQ
                    go_upto_region 19 with fail
                    refine pick_reg_true w.heap.size w3.heap.size np n _ i k y al 2 ly lk rfl hkn ks1 ks0 (by omega) ys1 ys0 (by omega) il1 il0 hl2 _ _ rfl rfl rfl rfl rfl rfl rfl d0 hxi dy dk ?_
                    intro W2 hb
                    simp only [put_none_, setA, List.foldl_cons, List.foldl_nil, List.setIfInBounds_toArray, List.set_cons_succ, List.set_cons_zero]
                    have HB2q := Lib.hid (below_step HBQ.out hb)
                    clear hb d0 d2 dk dy hxi
                    go_wp2_with fail
                    all_goals first | (exfalso; omega) | exact ⟨⟨i + 1, by omega, by go_num, by rw [HNX.out], HB2q⟩, by simp only [intOf]; omega⟩
                  · have HNX := Lib.hid (show decide ((k : Int) ∈ L.take (i + 1)) = false by rw [hnext]; simp [hky])
                    clear hnext
                    have hky2 : ((y : Int) == (k : Int)) = false := by simpa using hky
                    clear hky
                    clear REGQ
                    go_upto_region 19 with fail
                    refine pick_reg_true w.heap.size w3.heap.size np n _ i k y al 2 ly lk rfl hkn ks1 ks0 (by omega) ys1 ys0 (by omega) il1 il0 hl2 _ _ rfl rfl rfl rfl rfl rfl rfl d0 hxi dy dk ?_
                    intro W2 hb
                    simp only [put_none_, setA, List.foldl_cons, List.foldl_nil, List.setIfInBounds_toArray, List.set_cons_succ, List.set_cons_zero]
                    have HB2q := Lib.hid (below_step HBQ.out hb)
                    clear hb d0 d2 dk dy hxi
                    go_wp2_with fail
                    all_goals first | (exfalso; omega) | exact ⟨⟨i + 1, by omega, by go_num, by rw [HNX.out], HB2q⟩, by simp only [intOf]; omega⟩
                · have HNX := Lib.hid (show decide ((k : Int) ∈ L.take (i + 1)) = true by rw [hnext]; simp)
                  clear hnext
                  clear REGQ
                  go_upto_region 19 with fail
                  refine pick_reg_true w.heap.size w3.heap.size np n _ i k y al 2 ly lk rfl hkn ks1 ks0 (by omega) ys1 ys0 (by omega) il1 il0 hl2 _ _ rfl rfl rfl rfl rfl rfl rfl d0 hxi dy dk ?_
                  intro W2 hb
                  simp only [put_none_, setA, List.foldl_cons, List.foldl_nil, List.setIfInBounds_toArray, List.set_cons_succ, List.set_cons_zero]
                  have HB2q := Lib.hid (below_step HBQ.out hb)
                  clear hb d0 d2 dk dy hxi
                  go_wp2_with fail
                  all_goals first | (exfalso; omega) | exact ⟨⟨i + 1, by omega, by go_num, by rw [HNX.out], HB2q⟩, by simp only [intOf]; omega⟩
              · have hf1 : ((i : Int) == 0) = false := by simp; omega
                have hf2 : (i : Int) < sp := by omega
                clear hct hi0
                cases b1
                · by_cases hky : (y : Int) = (k : Int)
                  · have hky2 : ((y : Int) == (k : Int)) = true := by simpa using hky
                    have HNX := Lib.hid (show decide ((k : Int) ∈ L.take (i + 1)) = true by rw [hnext]; simp [hky])
                    clear hnext
                    clear hky
                    clear REGQ
                    go_upto_region 19 with fail
                    refine pick_reg_true w.heap.size w3.heap.size np n _ i k y al 2 ly lk rfl hkn ks1 ks0 (by omega) ys1 ys0 (by omega) il1 il0 hl2 _ _ rfl rfl rfl rfl rfl rfl rfl d0 hxi dy dk ?_
                    intro W2 hb
                    simp only [put_none_, setA, List.foldl_cons, List.foldl_nil, List.setIfInBounds_toArray, List.set_cons_succ, List.set_cons_zero]
                    have HB2q := Lib.hid (below_step HBQ.out hb)
                    clear hb d0 d2 dk dy hxi
                    go_wp2_with fail
                    all_goals first | (exfalso; omega) | exact ⟨⟨i + 1, by omega, by go_num, by rw [HNX.out], HB2q⟩, by simp only [intOf]; omega⟩
                  · have HNX := Lib.hid (show decide ((k : Int) ∈ L.take (i + 1)) = false by rw [hnext]; simp [hky])
                    clear hnext
                    have hky2 : ((y : Int) == (k : Int)) = false := by simpa using hky
                    clear hky
                    clear REGQ
                    go_upto_region 19 with fail
                    refine pick_reg_true w.heap.size w3.heap.size np n _ i k y al 2 ly lk rfl hkn ks1 ks0 (by omega) ys1 ys0 (by omega) il1 il0 hl2 _ _ rfl rfl rfl rfl rfl rfl rfl d0 hxi dy dk ?_
                    intro W2 hb
                    simp only [put_none_, setA, List.foldl_cons, List.foldl_nil, List.setIfInBounds_toArray, List.set_cons_succ, List.set_cons_zero]
                    have HB2q := Lib.hid (below_step HBQ.out hb)
                    clear hb d0 d2 dk dy hxi
                    go_wp2_with fail
                    all_goals first | (exfalso; omega) | exact ⟨⟨i + 1, by omega, by go_num, by rw [HNX.out], HB2q⟩, by simp only [intOf]; omega⟩
                · have HNX := Lib.hid (show decide ((k : Int) ∈ L.take (i + 1)) = true by rw [hnext]; simp)
                  clear hnext
                  clear REGQ
                  go_upto_region 19 with fail
                  refine pick_reg_true w.heap.size w3.heap.size np n _ i k y al 2 ly lk rfl hkn ks1 ks0 (by omega) ys1 ys0 (by omega) il1 il0 hl2 _ _ rfl rfl rfl rfl rfl rfl rfl d0 hxi dy dk ?_
                  intro W2 hb
                  simp only [put_none_, setA, List.foldl_cons, List.foldl_nil, List.setIfInBounds_toArray, List.set_cons_succ, List.set_cons_zero]
                  have HB2q := Lib.hid (below_step HBQ.out hb)
                  clear hb d0 d2 dk dy hxi
                  go_wp2_with fail
                  all_goals first | (exfalso; omega) | exact ⟨⟨i + 1, by omega, by go_num, by rw [HNX.out], HB2q⟩, by simp only [intOf]; omega⟩
            · have hmem := decide_eq_true HPK.out.mem
              rw [show m = i by omega] at hmem
              rw [hmem]
              clear hmem
              have hm1 := HPK.out.low
              have hf1 : ((i : Int) == 0) = false := by simp; omega
              by_cases hin : i < n
              · have hct : ¬ (i : Int) < sp := fun h => by have := (HPK.out.cut i (by rw [HN.out]; exact hin)).1 (.inr h); omega
                clear hlt hi hmn
                have il1 : (i : Int) < (n : Int) := by omega
                have HBq := Lib.hid (below_step HBr.out HBQ.out)
                go_wp2_with (go_at_call 48; refine (lives_calls _).mono ?_; rintro e w9 ⟨rfl, hb⟩; have HB9 := Lib.hid (below_step HBq.out hb); clear hb)
                all_goals first | (exfalso; omega) | (go_ret; exact ⟨rfl, below_step HB3.out HB9.out⟩)
              · have il1 : ¬ (i : Int) < (n : Int) := by omega
                clear hlt hi hmn
                have HBq := Lib.hid (below_step HBr.out HBQ.out)
                go_wp2_with (go_at_call 48; refine (lives_calls _).mono ?_; rintro e w9 ⟨rfl, hb⟩; have HB9 := Lib.hid (below_step HBq.out hb); clear hb)
                all_goals first | (exfalso; omega) | (go_ret; exact ⟨rfl, below_step HB3.out HB9.out⟩)
        · have hms := ld_end HMO.out (by rw [HNL.out]; omega)
          have HMS := Lib.hid hms
          clear hms HMO
          have HR0 := Lib.hid (blk_call HBr.out H03.out)
          have d0 := (blk_cell HR0.out 1).trans HCF.out.c1
          have d2 := (blk_cell HR0.out 2).trans HCF.out.c2
          have dk := (blk_cell HMr.out k).trans (HMS.out k hkn)
          obtain ⟨lk, hlk⟩ : ∃ x, loadI ls (k : Int) = x := ⟨_, rfl⟩
          rw [hlk] at dk
          have HLK := Lib.hid hlk
          clear hlk
          have D0 := Lib.hid d0
          have D2 := Lib.hid d2
          have DK := Lib.hid dk
          clear d0 d2 dk
          go_wp2_with fail
          go_loopw [16, 17] (fun v16 v17 wq => ∃ i : Nat, i ≤ m ∧ v17 = .int .i64 i ∧ v16 = .bool (decide ((k : Int) ∈ L.take i)) ∧ Hid (Below wr.heap.size wr wq)) (fun _ v17 _ => m - (intOf v17).toNat)
          case atStart => exact ⟨0, Nat.zero_le _, rfl, by simp, Lib.hid (Below.refl _ _)⟩
          case round =>
            obtain ⟨i, hi, rfl, rfl, HBQ⟩ := hrel
            have d0 := (HBQ.out.cell (World.block_lt_of_cell? _ _ D0.out)).trans D0.out
            have d2 := (HBQ.out.cell (World.block_lt_of_cell? _ _ D2.out)).trans D2.out
            have dk := (HBQ.out.cell (World.block_lt_of_cell? _ _ DK.out)).trans DK.out
            have hmn := HPK.out.high
            rw [HN.out] at hmn
            by_cases hlt : i < m
            · have hin : i < n := by omega
              have hct := (HPK.out.cut i (by rw [HN.out]; omega)).2 hlt
              obtain ⟨al', ea', hxi⟩ := loadInt (Kd.C_below (Kd.C_below HC.out HBr.out) HBQ.out) i hin
              obtain rfl := Option.some.inj ea'
              clear ea'
              have hiy := HIX.out i hin
              have hts := take_step (L := L) (i := i) (by rw [HN.out]; exact hin)
              have hlst := fun e => HPK.out.least e i hlt
              obtain ⟨y', hy'⟩ : ∃ x, L.getD i 0 = x := ⟨_, rfl⟩
              rw [hy'] at hxi hiy hts hlst
              obtain ⟨y, rfl⟩ : ∃ m : Nat, y' = m := ⟨y'.toNat, by omega⟩
              rw [HLK.out] at hlst
              have dy := (blk_cell (blk_call HBQ.out HMr.out) y).trans (HMS.out y (by omega))
              obtain ⟨ly, hly⟩ : ∃ x, loadI ls (y : Int) = x := ⟨_, rfl⟩
              rw [hly] at dy hlst
              clear hly hy'
              have hnext : decide ((k : Int) ∈ L.take (i + 1)) = (decide ((k : Int) ∈ L.take i) || decide ((y : Int) = (k : Int))) := by
                rw [hts, Bool.eq_iff_iff]
                simp only [decide_eq_true_eq, Bool.or_eq_true, List.mem_append, List.mem_singleton]
                constructor <;> (intro h; rcases h with h | h <;> simp [h])
              obtain ⟨b1, hb1⟩ : ∃ b, decide ((k : Int) ∈ L.take i) = b := ⟨_, rfl⟩
              rw [hb1] at hnext ⊢
              clear hts hb1
              have il1 : (i : Int) < (n : Int) := by omega
              have il0 : (0 : Int) ≤ (i : Int) := by omega
              have ys1 : (y : Int) < (np : Int) := by omega
              have ys0 : (0 : Int) ≤ (y : Int) := by omega
              have ks1 : (k : Int) < (np : Int) := by omega
              have ks0 : (0 : Int) ≤ (k : Int) := by omega
              have ks2 : ¬ (k : Int) < 0 := by omega
              have ks3 : ¬ (k : Int) ≥ (np : Int) := by omega
              have hl2 : ¬ ly < lk := hlst rfl
              have REGQ := 0
              by_cases hi0 : i = 0
              · have hf1 : ((i : Int) == 0) = true := by simp [hi0]
                clear hct hi0
                cases b1
                · by_cases hky : (y : Int) = (k : Int)
                  · have hky2 : ((y : Int) == (k : Int)) = true := by simpa using hky
                    have HNX := Lib.hid (show decide ((k : Int) ∈ L.take (i + 1)) = true by rw [hnext]; simp [hky])
                    clear hnext
                    clear hky
                    clear REGQ
                    go_upto_region 19 with fail
                    refine pick_reg_true w.heap.size w3.heap.size np n _ i k y al 2 ly lk rfl hkn ks1 ks0 (by omega) ys1 ys0 (by omega) il1 il0 hl2 _ _ rfl rfl rfl rfl rfl rfl rfl d0 hxi dy dk ?_
                    intro W2 hb
                    simp only [put_none_, setA, List.foldl_cons, List.foldl_nil, List.setIfInBounds_toArray, List.set_cons_succ, List.set_cons_zero]
                    have HB2q := Lib.hid (below_step HBQ.out hb)
                    clear hb d0 d2 dk dy hxi
                    go_wp2_with fail
                    all_goals first | (exfalso; omega) | exact ⟨⟨i + 1, by omega, by go_num, by rw [HNX.out], HB2q⟩, by simp only [intOf]; omega⟩
                  · have HNX := Lib.hid (show decide ((k : Int) ∈ L.take (i + 1)) = false by rw [hnext]; simp [hky])
                    clear hnext
                    have hky2 : ((y : Int) == (k : Int)) = false := by simpa using hky
                    clear hky
                    clear REGQ
                    go_upto_region 19 with fail
                    refine pick_reg_true w.heap.size w3.heap.size np n _ i k y al 2 ly lk rfl hkn ks1 ks0 (by omega) ys1 ys0 (by omega) il1 il0 hl2 _ _ rfl rfl rfl rfl rfl rfl rfl d0 hxi dy dk ?_
                    intro W2 hb
                    simp only [put_none_, setA, List.foldl_cons, List.foldl_nil, List.setIfInBounds_toArray, List.set_cons_succ, List.set_cons_zero]
                    have HB2q := Lib.hid (below_step HBQ.out hb)
                    clear hb d0 d2 dk dy hxi
                    go_wp2_with fail
                    all_goals first | (exfalso; omega) | exact ⟨⟨i + 1, by omega, by go_num, by rw [HNX.out], HB2q⟩, by simp only [intOf]; omega⟩
                · have HNX := Lib.hid (show decide ((k : Int) ∈ L.take (i + 1)) = true by rw [hnext]; simp)
                  clear hnext
                  clear REGQ
                  go_upto_region 19 with fail
                  refine pick_reg_true w.heap.size w3.heap.size np n _ i k y al 2 ly lk rfl hkn ks1 ks0 (by omega) ys1 ys0 (by omega) il1 il0 hl2 _ _ rfl rfl rfl rfl rfl rfl rfl d0 hxi dy dk ?_
                  intro W2 hb
                  simp only [put_none_, setA, List.foldl_cons, List.foldl_nil, List.setIfInBounds_toArray, List.set_cons_succ, List.set_cons_zero]
                  have HB2q := Lib.hid (below_step HBQ.out hb)
                  clear hb d0 d2 dk dy hxi
                  go_wp2_with fail
                  all_goals first | (exfalso; omega) | exact ⟨⟨i + 1, by omega, by go_num, by rw [HNX.out], HB2q⟩, by simp only [intOf]; omega⟩
              · have hf1 : ((i : Int) == 0) = false := by simp; omega
                have hf2 : (i : Int) < sp := by omega
                clear hct hi0
                cases b1
                · by_cases hky : (y : Int) = (k : Int)
                  · have hky2 : ((y : Int) == (k : Int)) = true := by simpa using hky
                    have HNX := Lib.hid (show decide ((k : Int) ∈ L.take (i + 1)) = true by rw [hnext]; simp [hky])
                    clear hnext
                    clear hky
                    clear REGQ
                    go_upto_region 19 with fail
                    refine pick_reg_true w.heap.size w3.heap.size np n _ i k y al 2 ly lk rfl hkn ks1 ks0 (by omega) ys1 ys0 (by omega) il1 il0 hl2 _ _ rfl rfl rfl rfl rfl rfl rfl d0 hxi dy dk ?_
                    intro W2 hb
                    simp only [put_none_, setA, List.foldl_cons, List.foldl_nil, List.setIfInBounds_toArray, List.set_cons_succ, List.set_cons_zero]
                    have HB2q := Lib.hid (below_step HBQ.out hb)
                    clear hb d0 d2 dk dy hxi
                    go_wp2_with fail
                    all_goals first | (exfalso; omega) | exact ⟨⟨i + 1, by omega, by go_num, by rw [HNX.out], HB2q⟩, by simp only [intOf]; omega⟩
                  · have HNX := Lib.hid (show decide ((k : Int) ∈ L.take (i + 1)) = false by rw [hnext]; simp [hky])
                    clear hnext
                    have hky2 : ((y : Int) == (k : Int)) = false := by simpa using hky
                    clear hky
                    clear REGQ
                    go_upto_region 19 with fail
                    refine pick_reg_true w.heap.size w3.heap.size np n _ i k y al 2 ly lk rfl hkn ks1 ks0 (by omega) ys1 ys0 (by omega) il1 il0 hl2 _ _ rfl rfl rfl rfl rfl rfl rfl d0 hxi dy dk ?_
                    intro W2 hb
                    simp only [put_none_, setA, List.foldl_cons, List.foldl_nil, List.setIfInBounds_toArray, List.set_cons_succ, List.set_cons_zero]
                    have HB2q := Lib.hid (below_step HBQ.out hb)
                    clear hb d0 d2 dk dy hxi
                    go_wp2_with fail
                    all_goals first | (exfalso; omega) | exact ⟨⟨i + 1, by omega, by go_num, by rw [HNX.out], HB2q⟩, by simp only [intOf]; omega⟩
                · have HNX := Lib.hid (show decide ((k : Int) ∈ L.take (i + 1)) = true by rw [hnext]; simp)
                  clear hnext
                  clear REGQ
                  go_upto_region 19 with fail
                  refine pick_reg_true w.heap.size w3.heap.size np n _ i k y al 2 ly lk rfl hkn ks1 ks0 (by omega) ys1 ys0 (by omega) il1 il0 hl2 _ _ rfl rfl rfl rfl rfl rfl rfl d0 hxi dy dk ?_
                  intro W2 hb
                  simp only [put_none_, setA, List.foldl_cons, List.foldl_nil, List.setIfInBounds_toArray, List.set_cons_succ, List.set_cons_zero]
                  have HB2q := Lib.hid (below_step HBQ.out hb)
                  clear hb d0 d2 dk dy hxi
                  go_wp2_with fail
                  all_goals first | (exfalso; omega) | exact ⟨⟨i + 1, by omega, by go_num, by rw [HNX.out], HB2q⟩, by simp only [intOf]; omega⟩
            · have hmem := decide_eq_true HPK.out.mem
              rw [show m = i by omega] at hmem
              rw [hmem]
              clear hmem
              have hm1 := HPK.out.low
              have hf1 : ((i : Int) == 0) = false := by simp; omega
              by_cases hin : i < n
              · have hct : ¬ (i : Int) < sp := fun h => by have := (HPK.out.cut i (by rw [HN.out]; exact hin)).1 (.inr h); omega
                clear hlt hi hmn
                have il1 : (i : Int) < (n : Int) := by omega
                have HBq := Lib.hid (below_step HBr.out HBQ.out)
                go_wp2_with (go_at_call 48; refine (lives_calls _).mono ?_; rintro e w9 ⟨rfl, hb⟩; have HB9 := Lib.hid (below_step HBq.out hb); clear hb)
                all_goals first | (exfalso; omega) | (go_ret; exact ⟨rfl, below_step HB3.out HB9.out⟩)
              · have il1 : ¬ (i : Int) < (n : Int) := by omega
                clear hlt hi hmn
                have HBq := Lib.hid (below_step HBr.out HBQ.out)
                go_wp2_with (go_at_call 48; refine (lives_calls _).mono ?_; rintro e w9 ⟨rfl, hb⟩; have HB9 := Lib.hid (below_step HBq.out hb); clear hb)
                all_goals first | (exfalso; omega) | (go_ret; exact ⟨rfl, below_step HB3.out HB9.out⟩)
  · have n2 : (st == 2) = false := by simpa using e2
    have n3 : (st != 2) = true := by simpa using e2
    rw [← hfst e2] at hx0
    clear hfst e2
    go_upto_region 10 with fail
    refine gen_w (fun W => W.heap[w3.heap.size]? = some (.cells (madeCells #[.int .i64 0] np) 2 (0, 0)) ∧ Below w3.heap.size w3 W) ⟨heap_alloc_new _ _, below_alloc (Below.refl _ _) _⟩ ?_
    rintro w4 ⟨hM, hb⟩
    have HM4 := Lib.hid hM
    have HB4 := Lib.hid hb
    clear hM hb hmk hc0 hc1 hx0
    go_wp2_with fail
    go_loopw [15] (fun v15 wr => ∃ (i : Nat) (ms : Array Value), i ≤ min nl np ∧ v15 = .int .i64 i ∧ Hid (Below w3.heap.size w3 wr) ∧ Hid (wr.heap[w3.heap.size]? = some (.cells ms 2 (0, 0))) ∧ Hid (LdOk np ls i ms)) (fun v15 _ => min nl np - (intOf v15).toNat)
    case atStart => exact ⟨0, _, Nat.zero_le _, rfl, HB4, HM4, Lib.hid (ld_start np ls)⟩
    case round =>
      clear HM4 HB4
      obtain ⟨i, ms, hi, rfl, HBr, HMr, HMO⟩ := hrel
      by_cases hlt : i < min nl np
      · have l1 : (i : Int) < (nl : Int) := by omega
        have l2 : (i : Int) < (np : Int) := by omega
        have l0 : (0 : Int) ≤ (i : Int) := by omega
        obtain ⟨bd, eb, hci⟩ := loadInt (Kd.C_below HLS.out (below_step HB3.out HBr.out)) i (by omega)
        subst eb
        have HMO2 := Lib.hid (ld_step HMO.out)
        obtain ⟨x, hx⟩ : ∃ x, ls.getD i 0 = x := ⟨_, rfl⟩
        rw [hx] at hci HMO2
        have HSZ := Lib.hid (show i < ms.size by rw [HMO.out.1]; omega)
        clear hx HMO
        go_wp2_with ((with_reducible refine gate_storeT 2 rfl ?_); refine bx_store1 rfl 2 (.tmp 85) (.tmp 84) rfl w3.heap.size i rfl (.int .i64 x) rfl 2 ms HMr.out (by kernel_rfl) HSZ.out rfl (ms.setIfInBounds i (.int .i64 x)) rfl HBr.out (Nat.le_refl _) ?_; intro w5 hga hsz hoth hb; have HM5 := Lib.hid hga; have HB5 := Lib.hid hb; clear hga hsz hoth hb)
        exact ⟨⟨i + 1, _, by omega, by go_num, HB5, HM5, HMO2⟩, by simp only [intOf]; omega⟩
      · by_cases l1 : (i : Int) < (nl : Int)
        · have l2 : ¬ (i : Int) < (np : Int) := by omega
          have hms := ld_end HMO.out (by rw [HNL.out]; omega)
          have HMS := Lib.hid hms
          clear hms HMO
          have HR0 := Lib.hid (blk_call HBr.out H03.out)
          have d0 := (blk_cell HR0.out 1).trans HCF.out.c1
          have d2 := (blk_cell HR0.out 2).trans HCF.out.c2
          have dk := (blk_cell HMr.out k).trans (HMS.out k hkn)
          obtain ⟨lk, hlk⟩ : ∃ x, loadI ls (k : Int) = x := ⟨_, rfl⟩
          rw [hlk] at dk
          have HLK := Lib.hid hlk
          clear hlk
          have D0 := Lib.hid d0
          have D2 := Lib.hid d2
          have DK := Lib.hid dk
          clear d0 d2 dk
          go_wp2_with fail
          go_loopw [16, 17] (fun v16 v17 wq => ∃ i : Nat, i ≤ m ∧ v17 = .int .i64 i ∧ v16 = .bool (decide ((k : Int) ∈ L.take i)) ∧ Hid (Below wr.heap.size wr wq)) (fun _ v17 _ => m - (intOf v17).toNat)
          case atStart => exact ⟨0, Nat.zero_le _, rfl, by simp, Lib.hid (Below.refl _ _)⟩
          case round =>
            obtain ⟨i, hi, rfl, rfl, HBQ⟩ := hrel
            have d0 := (HBQ.out.cell (World.block_lt_of_cell? _ _ D0.out)).trans D0.out
            have d2 := (HBQ.out.cell (World.block_lt_of_cell? _ _ D2.out)).trans D2.out
            have dk := (HBQ.out.cell (World.block_lt_of_cell? _ _ DK.out)).trans DK.out
            have hmn := HPK.out.high
            rw [HN.out] at hmn
            by_cases hlt : i < m
            · have hin : i < n := by omega
              have hct := (HPK.out.cut i (by rw [HN.out]; omega)).2 hlt
              obtain ⟨al', ea', hxi⟩ := loadInt (Kd.C_below (Kd.C_below HC.out HBr.out) HBQ.out) i hin
              obtain rfl := Option.some.inj ea'
              clear ea'
              have hiy := HIX.out i hin
              have hts := take_step (L := L) (i := i) (by rw [HN.out]; exact hin)
              have hlst := fun e => HPK.out.least e i hlt
              obtain ⟨y', hy'⟩ : ∃ x, L.getD i 0 = x := ⟨_, rfl⟩
              rw [hy'] at hxi hiy hts hlst
              obtain ⟨y, rfl⟩ : ∃ m : Nat, y' = m := ⟨y'.toNat, by omega⟩
              rw [HLK.out] at hlst
              have dy := (blk_cell (blk_call HBQ.out HMr.out) y).trans (HMS.out y (by omega))
              obtain ⟨ly, hly⟩ : ∃ x, loadI ls (y : Int) = x := ⟨_, rfl⟩
              rw [hly] at dy hlst
              clear hly hy'
              have hnext : decide ((k : Int) ∈ L.take (i + 1)) = (decide ((k : Int) ∈ L.take i) || decide ((y : Int) = (k : Int))) := by
                rw [hts, Bool.eq_iff_iff]
                simp only [decide_eq_true_eq, Bool.or_eq_true, List.mem_append, List.mem_singleton]
                constructor <;> (intro h; rcases h with h | h <;> simp [h])
              obtain ⟨b1, hb1⟩ : ∃ b, decide ((k : Int) ∈ L.take i) = b := ⟨_, rfl⟩
              rw [hb1] at hnext ⊢
              clear hts hb1
              have il1 : (i : Int) < (n : Int) := by omega
              have il0 : (0 : Int) ≤ (i : Int) := by omega
              have ys1 : (y : Int) < (np : Int) := by omega
              have ys0 : (0 : Int) ≤ (y : Int) := by omega
              have ks1 : (k : Int) < (np : Int) := by omega
              have ks0 : (0 : Int) ≤ (k : Int) := by omega
              have ks2 : ¬ (k : Int) < 0 := by omega
              have ks3 : ¬ (k : Int) ≥ (np : Int) := by omega
              clear hlst
              have REGQ := 0
              by_cases hi0 : i = 0
              · have hf1 : ((i : Int) == 0) = true := by simp [hi0]
                clear hct hi0
                cases b1
                · by_cases hky : (y : Int) = (k : Int)
                  · have hky2 : ((y : Int) == (k : Int)) = true := by simpa using hky
                    have HNX := Lib.hid (show decide ((k : Int) ∈ L.take (i + 1)) = true by rw [hnext]; simp [hky])
                    clear hnext
                    clear hky
                    clear REGQ
                    go_upto_region 19 with fail
                    refine pick_reg_false w.heap.size w3.heap.size np n _ i k y al st 0 0 n2 hkn ks1 ks0 (by omega) ys1 ys0 (by omega) il1 il0 (by omega) _ _ rfl rfl rfl rfl rfl rfl rfl d0 ?_
                    intro W2 hb
                    simp only [put_none_, setA, List.foldl_cons, List.foldl_nil, List.setIfInBounds_toArray, List.set_cons_succ, List.set_cons_zero]
                    have HB2q := Lib.hid (below_step HBQ.out hb)
                    clear hb d0 d2 dk dy hxi
                    go_wp2_with fail
                    all_goals first | (exfalso; omega) | exact ⟨⟨i + 1, by omega, by go_num, by rw [HNX.out], HB2q⟩, by simp only [intOf]; omega⟩
                  · have HNX := Lib.hid (show decide ((k : Int) ∈ L.take (i + 1)) = false by rw [hnext]; simp [hky])
                    clear hnext
                    have hky2 : ((y : Int) == (k : Int)) = false := by simpa using hky
                    clear hky
                    clear REGQ
                    go_upto_region 19 with fail
                    refine pick_reg_false w.heap.size w3.heap.size np n _ i k y al st 0 0 n2 hkn ks1 ks0 (by omega) ys1 ys0 (by omega) il1 il0 (by omega) _ _ rfl rfl rfl rfl rfl rfl rfl d0 ?_
                    intro W2 hb
                    simp only [put_none_, setA, List.foldl_cons, List.foldl_nil, List.setIfInBounds_toArray, List.set_cons_succ, List.set_cons_zero]
                    have HB2q := Lib.hid (below_step HBQ.out hb)
                    clear hb d0 d2 dk dy hxi
                    go_wp2_with fail
                    all_goals first | (exfalso; omega) | exact ⟨⟨i + 1, by omega, by go_num, by rw [HNX.out], HB2q⟩, by simp only [intOf]; omega⟩
                · have HNX := Lib.hid (show decide ((k : Int) ∈ L.take (i + 1)) = true by rw [hnext]; simp)
                  clear hnext
                  clear REGQ
                  go_upto_region 19 with fail
                  refine pick_reg_false w.heap.size w3.heap.size np n _ i k y al st 0 0 n2 hkn ks1 ks0 (by omega) ys1 ys0 (by omega) il1 il0 (by omega) _ _ rfl rfl rfl rfl rfl rfl rfl d0 ?_
                  intro W2 hb
                  simp only [put_none_, setA, List.foldl_cons, List.foldl_nil, List.setIfInBounds_toArray, List.set_cons_succ, List.set_cons_zero]
                  have HB2q := Lib.hid (below_step HBQ.out hb)
                  clear hb d0 d2 dk dy hxi
                  go_wp2_with fail
                  all_goals first | (exfalso; omega) | exact ⟨⟨i + 1, by omega, by go_num, by rw [HNX.out], HB2q⟩, by simp only [intOf]; omega⟩
              · have hf1 : ((i : Int) == 0) = false := by simp; omega
                have hf2 : (i : Int) < sp := by omega
                clear hct hi0
                cases b1
                · by_cases hky : (y : Int) = (k : Int)
                  · have hky2 : ((y : Int) == (k : Int)) = true := by simpa using hky
                    have HNX := Lib.hid (show decide ((k : Int) ∈ L.take (i + 1)) = true by rw [hnext]; simp [hky])
                    clear hnext
                    clear hky
                    clear REGQ
                    go_upto_region 19 with fail
                    refine pick_reg_false w.heap.size w3.heap.size np n _ i k y al st 0 0 n2 hkn ks1 ks0 (by omega) ys1 ys0 (by omega) il1 il0 (by omega) _ _ rfl rfl rfl rfl rfl rfl rfl d0 ?_
                    intro W2 hb
                    simp only [put_none_, setA, List.foldl_cons, List.foldl_nil, List.setIfInBounds_toArray, List.set_cons_succ, List.set_cons_zero]
                    have HB2q := Lib.hid (below_step HBQ.out hb)
                    clear hb d0 d2 dk dy hxi
                    go_wp2_with fail
                    all_goals first | (exfalso; omega) | exact ⟨⟨i + 1, by omega, by go_num, by rw [HNX.out], HB2q⟩, by simp only [intOf]; omega⟩
                  · have HNX := Lib.hid (show decide ((k : Int) ∈ L.take (i + 1)) = false by rw [hnext]; simp [hky])
                    clear hnext
                    have hky2 : ((y : Int) == (k : Int)) = false := by simpa using hky
                    clear hky
                    clear REGQ
                    go_upto_region 19 with fail
                    refine pick_reg_false w.heap.size w3.heap.size np n _ i k y al st 0 0 n2 hkn ks1 ks0 (by omega) ys1 ys0 (by omega) il1 il0 (by omega) _ _ rfl rfl rfl rfl rfl rfl rfl d0 ?_
                    intro W2 hb
                    simp only [put_none_, setA, List.foldl_cons, List.foldl_nil, List.setIfInBounds_toArray, List.set_cons_succ, List.set_cons_zero]
                    have HB2q := Lib.hid (below_step HBQ.out hb)
                    clear hb d0 d2 dk dy hxi
                    go_wp2_with fail
                    all_goals first | (exfalso; omega) | exact ⟨⟨i + 1, by omega, by go_num, by rw [HNX.out], HB2q⟩, by simp only [intOf]; omega⟩
                · have HNX := Lib.hid (show decide ((k : Int) ∈ L.take (i + 1)) = true by rw [hnext]; simp)
                  clear hnext
                  clear REGQ
                  go_upto_region 19 with fail
                  refine pick_reg_false w.heap.size w3.heap.size np n _ i k y al st 0 0 n2 hkn ks1 ks0 (by omega) ys1 ys0 (by omega) il1 il0 (by omega) _ _ rfl rfl rfl rfl rfl rfl rfl d0 ?_
                  intro W2 hb
                  simp only [put_none_, setA, List.foldl_cons, List.foldl_nil, List.setIfInBounds_toArray, List.set_cons_succ, List.set_cons_zero]
                  have HB2q := Lib.hid (below_step HBQ.out hb)
                  clear hb d0 d2 dk dy hxi
                  go_wp2_with fail
                  all_goals first | (exfalso; omega) | exact ⟨⟨i + 1, by omega, by go_num, by rw [HNX.out], HB2q⟩, by simp only [intOf]; omega⟩
            · have hmem := decide_eq_true HPK.out.mem
              rw [show m = i by omega] at hmem
              rw [hmem]
              clear hmem
              have hm1 := HPK.out.low
              have hf1 : ((i : Int) == 0) = false := by simp; omega
              by_cases hin : i < n
              · have hct : ¬ (i : Int) < sp := fun h => by have := (HPK.out.cut i (by rw [HN.out]; exact hin)).1 (.inr h); omega
                clear hlt hi hmn
                have il1 : (i : Int) < (n : Int) := by omega
                have HBq := Lib.hid (below_step HBr.out HBQ.out)
                go_wp2_with (go_at_call 48; refine (lives_calls _).mono ?_; rintro e w9 ⟨rfl, hb⟩; have HB9 := Lib.hid (below_step HBq.out hb); clear hb)
                all_goals first | (exfalso; omega) | (go_ret; exact ⟨rfl, below_step HB3.out HB9.out⟩)
              · have il1 : ¬ (i : Int) < (n : Int) := by omega
                clear hlt hi hmn
                have HBq := Lib.hid (below_step HBr.out HBQ.out)
                go_wp2_with (go_at_call 48; refine (lives_calls _).mono ?_; rintro e w9 ⟨rfl, hb⟩; have HB9 := Lib.hid (below_step HBq.out hb); clear hb)
                all_goals first | (exfalso; omega) | (go_ret; exact ⟨rfl, below_step HB3.out HB9.out⟩)
        · have hms := ld_end HMO.out (by rw [HNL.out]; omega)
          have HMS := Lib.hid hms
          clear hms HMO
          have HR0 := Lib.hid (blk_call HBr.out H03.out)
          have d0 := (blk_cell HR0.out 1).trans HCF.out.c1
          have d2 := (blk_cell HR0.out 2).trans HCF.out.c2
          have dk := (blk_cell HMr.out k).trans (HMS.out k hkn)
          obtain ⟨lk, hlk⟩ : ∃ x, loadI ls (k : Int) = x := ⟨_, rfl⟩
          rw [hlk] at dk
          have HLK := Lib.hid hlk
          clear hlk
          have D0 := Lib.hid d0
          have D2 := Lib.hid d2
          have DK := Lib.hid dk
          clear d0 d2 dk
          go_wp2_with fail
          go_loopw [16, 17] (fun v16 v17 wq => ∃ i : Nat, i ≤ m ∧ v17 = .int .i64 i ∧ v16 = .bool (decide ((k : Int) ∈ L.take i)) ∧ Hid (Below wr.heap.size wr wq)) (fun _ v17 _ => m - (intOf v17).toNat)
          case atStart => exact ⟨0, Nat.zero_le _, rfl, by simp, Lib.hid (Below.refl _ _)⟩
          case round =>
            obtain ⟨i, hi, rfl, rfl, HBQ⟩ := hrel
            have d0 := (HBQ.out.cell (World.block_lt_of_cell? _ _ D0.out)).trans D0.out
            have d2 := (HBQ.out.cell (World.block_lt_of_cell? _ _ D2.out)).trans D2.out
            have dk := (HBQ.out.cell (World.block_lt_of_cell? _ _ DK.out)).trans DK.out
            have hmn := HPK.out.high
            rw [HN.out] at hmn
            by_cases hlt : i < m
            · have hin : i < n := by omega
              have hct := (HPK.out.cut i (by rw [HN.out]; omega)).2 hlt
              obtain ⟨al', ea', hxi⟩ := loadInt (Kd.C_below (Kd.C_below HC.out HBr.out) HBQ.out) i hin
              obtain rfl := Option.some.inj ea'
              clear ea'
              have hiy := HIX.out i hin
              have hts := take_step (L := L) (i := i) (by rw [HN.out]; exact hin)
              have hlst := fun e => HPK.out.least e i hlt
              obtain ⟨y', hy'⟩ : ∃ x, L.getD i 0 = x := ⟨_, rfl⟩
              rw [hy'] at hxi hiy hts hlst
              obtain ⟨y, rfl⟩ : ∃ m : Nat, y' = m := ⟨y'.toNat, by omega⟩
              rw [HLK.out] at hlst
              have dy := (blk_cell (blk_call HBQ.out HMr.out) y).trans (HMS.out y (by omega))
              obtain ⟨ly, hly⟩ : ∃ x, loadI ls (y : Int) = x := ⟨_, rfl⟩
              rw [hly] at dy hlst
              clear hly hy'
              have hnext : decide ((k : Int) ∈ L.take (i + 1)) = (decide ((k : Int) ∈ L.take i) || decide ((y : Int) = (k : Int))) := by
                rw [hts, Bool.eq_iff_iff]
                simp only [decide_eq_true_eq, Bool.or_eq_true, List.mem_append, List.mem_singleton]
                constructor <;> (intro h; rcases h with h | h <;> simp [h])
              obtain ⟨b1, hb1⟩ : ∃ b, decide ((k : Int) ∈ L.take i) = b := ⟨_, rfl⟩
              rw [hb1] at hnext ⊢
              clear hts hb1
              have il1 : (i : Int) < (n : Int) := by omega
              have il0 : (0 : Int) ≤ (i : Int) := by omega
              have ys1 : (y : Int) < (np : Int) := by omega
              have ys0 : (0 : Int) ≤ (y : Int) := by omega
              have ks1 : (k : Int) < (np : Int) := by omega
              have ks0 : (0 : Int) ≤ (k : Int) := by omega
              have ks2 : ¬ (k : Int) < 0 := by omega
              have ks3 : ¬ (k : Int) ≥ (np : Int) := by omega
              clear hlst
              have REGQ := 0
              by_cases hi0 : i = 0
              · have hf1 : ((i : Int) == 0) = true := by simp [hi0]
                clear hct hi0
                cases b1
                · by_cases hky : (y : Int) = (k : Int)
                  · have hky2 : ((y : Int) == (k : Int)) = true := by simpa using hky
                    have HNX := Lib.hid (show decide ((k : Int) ∈ L.take (i + 1)) = true by rw [hnext]; simp [hky])
                    clear hnext
                    clear hky
                    clear REGQ
                    go_upto_region 19 with fail
                    refine pick_reg_false w.heap.size w3.heap.size np n _ i k y al st 0 0 n2 hkn ks1 ks0 (by omega) ys1 ys0 (by omega) il1 il0 (by omega) _ _ rfl rfl rfl rfl rfl rfl rfl d0 ?_
                    intro W2 hb
                    simp only [put_none_, setA, List.foldl_cons, List.foldl_nil, List.setIfInBounds_toArray, List.set_cons_succ, List.set_cons_zero]
                    have HB2q := Lib.hid (below_step HBQ.out hb)
                    clear hb d0 d2 dk dy hxi
                    go_wp2_with fail
                    all_goals first | (exfalso; omega) | exact ⟨⟨i + 1, by omega, by go_num, by rw [HNX.out], HB2q⟩, by simp only [intOf]; omega⟩
                  · have HNX := Lib.hid (show decide ((k : Int) ∈ L.take (i + 1)) = false by rw [hnext]; simp [hky])
                    clear hnext
                    have hky2 : ((y : Int) == (k : Int)) = false := by simpa using hky
                    clear hky
                    clear REGQ
                    go_upto_region 19 with fail
                    refine pick_reg_false w.heap.size w3.heap.size np n _ i k y al st 0 0 n2 hkn ks1 ks0 (by omega) ys1 ys0 (by omega) il1 il0 (by omega) _ _ rfl rfl rfl rfl rfl rfl rfl d0 ?_
                    intro W2 hb
                    simp only [put_none_, setA, List.foldl_cons, List.foldl_nil, List.setIfInBounds_toArray, List.set_cons_succ, List.set_cons_zero]
                    have HB2q := Lib.hid (below_step HBQ.out hb)
                    clear hb d0 d2 dk dy hxi
                    go_wp2_with fail
                    all_goals first | (exfalso; omega) | exact ⟨⟨i + 1, by omega, by go_num, by rw [HNX.out], HB2q⟩, by simp only [intOf]; omega⟩
                · have HNX := Lib.hid (show decide ((k : Int) ∈ L.take (i + 1)) = true by rw [hnext]; simp)
                  clear hnext
                  clear REGQ
                  go_upto_region 19 with fail
                  refine pick_reg_false w.heap.size w3.heap.size np n _ i k y al st 0 0 n2 hkn ks1 ks0 (by omega) ys1 ys0 (by omega) il1 il0 (by omega) _ _ rfl rfl rfl rfl rfl rfl rfl d0 ?_
                  intro W2 hb
                  simp only [put_none_, setA, List.foldl_cons, List.foldl_nil, List.setIfInBounds_toArray, List.set_cons_succ, List.set_cons_zero]
                  have HB2q := Lib.hid (below_step HBQ.out hb)
                  clear hb d0 d2 dk dy hxi
                  go_wp2_with fail
                  all_goals first | (exfalso; omega) | exact ⟨⟨i + 1, by omega, by go_num, by rw [HNX.out], HB2q⟩, by simp only [intOf]; omega⟩
              · have hf1 : ((i : Int) == 0) = false := by simp; omega
                have hf2 : (i : Int) < sp := by omega
                clear hct hi0
                cases b1
                · by_cases hky : (y : Int) = (k : Int)
                  · have hky2 : ((y : Int) == (k : Int)) = true := by simpa using hky
                    have HNX := Lib.hid (show decide ((k : Int) ∈ L.take (i + 1)) = true by rw [hnext]; simp [hky])
                    clear hnext
                    clear hky
                    clear REGQ
                    go_upto_region 19 with fail
                    refine pick_reg_false w.heap.size w3.heap.size np n _ i k y al st 0 0 n2 hkn ks1 ks0 (by omega) ys1 ys0 (by omega) il1 il0 (by omega) _ _ rfl rfl rfl rfl rfl rfl rfl d0 ?_
                    intro W2 hb
                    simp only [put_none_, setA, List.foldl_cons, List.foldl_nil, List.setIfInBounds_toArray, List.set_cons_succ, List.set_cons_zero]
                    have HB2q := Lib.hid (below_step HBQ.out hb)
                    clear hb d0 d2 dk dy hxi
                    go_wp2_with fail
                    all_goals first | (exfalso; omega) | exact ⟨⟨i + 1, by omega, by go_num, by rw [HNX.out], HB2q⟩, by simp only [intOf]; omega⟩
                  · have HNX := Lib.hid (show decide ((k : Int) ∈ L.take (i + 1)) = false by rw [hnext]; simp [hky])
                    clear hnext
                    have hky2 : ((y : Int) == (k : Int)) = false := by simpa using hky
                    clear hky
                    clear REGQ
                    go_upto_region 19 with fail
                    refine pick_reg_false w.heap.size w3.heap.size np n _ i k y al st 0 0 n2 hkn ks1 ks0 (by omega) ys1 ys0 (by omega) il1 il0 (by omega) _ _ rfl rfl rfl rfl rfl rfl rfl d0 ?_
                    intro W2 hb
                    simp only [put_none_, setA, List.foldl_cons, List.foldl_nil, List.setIfInBounds_toArray, List.set_cons_succ, List.set_cons_zero]
                    have HB2q := Lib.hid (below_step HBQ.out hb)
                    clear hb d0 d2 dk dy hxi
                    go_wp2_with fail
                    all_goals first | (exfalso; omega) | exact ⟨⟨i + 1, by omega, by go_num, by rw [HNX.out], HB2q⟩, by simp only [intOf]; omega⟩
                · have HNX := Lib.hid (show decide ((k : Int) ∈ L.take (i + 1)) = true by rw [hnext]; simp)
                  clear hnext
                  clear REGQ
                  go_upto_region 19 with fail
                  refine pick_reg_false w.heap.size w3.heap.size np n _ i k y al st 0 0 n2 hkn ks1 ks0 (by omega) ys1 ys0 (by omega) il1 il0 (by omega) _ _ rfl rfl rfl rfl rfl rfl rfl d0 ?_
                  intro W2 hb
                  simp only [put_none_, setA, List.foldl_cons, List.foldl_nil, List.setIfInBounds_toArray, List.set_cons_succ, List.set_cons_zero]
                  have HB2q := Lib.hid (below_step HBQ.out hb)
                  clear hb d0 d2 dk dy hxi
                  go_wp2_with fail
                  all_goals first | (exfalso; omega) | exact ⟨⟨i + 1, by omega, by go_num, by rw [HNX.out], HB2q⟩, by simp only [intOf]; omega⟩
            · have hmem := decide_eq_true HPK.out.mem
              rw [show m = i by omega] at hmem
              rw [hmem]
              clear hmem
              have hm1 := HPK.out.low
              have hf1 : ((i : Int) == 0) = false := by simp; omega
              by_cases hin : i < n
              · have hct : ¬ (i : Int) < sp := fun h => by have := (HPK.out.cut i (by rw [HN.out]; exact hin)).1 (.inr h); omega
                clear hlt hi hmn
                have il1 : (i : Int) < (n : Int) := by omega
                have HBq := Lib.hid (below_step HBr.out HBQ.out)
                go_wp2_with (go_at_call 48; refine (lives_calls _).mono ?_; rintro e w9 ⟨rfl, hb⟩; have HB9 := Lib.hid (below_step HBq.out hb); clear hb)
                all_goals first | (exfalso; omega) | (go_ret; exact ⟨rfl, below_step HB3.out HB9.out⟩)
              · have il1 : ¬ (i : Int) < (n : Int) := by omega
                clear hlt hi hmn
                have HBq := Lib.hid (below_step HBr.out HBQ.out)
                go_wp2_with (go_at_call 48; refine (lives_calls _).mono ?_; rintro e w9 ⟨rfl, hb⟩; have HB9 := Lib.hid (below_step HBq.out hb); clear hb)
                all_goals first | (exfalso; omega) | (go_ret; exact ⟨rfl, below_step HB3.out HB9.out⟩)
end Go.Proofs.Ytaoflcmjmhfblaa.R
