/- The law InstGoes: the region of its call. -/
import Derived.Test.YtaoflcmjmhfblaaGLives16
import Derived.Test.YtaoflcmjmhfblaaWEqStruct
namespace Go.Proofs.Ytaoflcmjmhfblaa.I
open Go.RowKit Go.Proofs.YtaoflcmjmhfblaaW.PrintWords Go.Proofs.YtaoflcmjmhfblaaW.PrintLast Go.Proofs.YtaoflcmjmhfblaaW.PrintMore Go.Proofs.Ytaoflcmjmhfblaa.H Go.Shelf
set_option linter.unusedVariables false
set_option linter.unusedSimpArgs false
theorem eqInst (d : Nat) (w : World) (x0 y0 : Int) (x1 y1 : Int) (x2 y2 : Int) (x3 y3 : Int) (x4 y4 : Bool) (x5 y5 : Int) (x6 y6 : Int) (x7 y7 : Bool) (x8 y8 : Int) (x9 y9 : Bool) (x10 y10 : Bool) (x11 y11 : Int) :
    (Op.equalIn (d + 2) 34 (.agg #[.int .u64 x0, .int .u64 x1, .int .i64 x2, .int .i64 x3, .bool x4, .int .u8 x5, .int .u64 x6, .bool x7, .int .u64 x8, .bool x9, .bool x10, .int .u32 x11]) (.agg #[.int .u64 y0, .int .u64 y1, .int .i64 y2, .int .i64 y3, .bool y4, .int .u8 y5, .int .u64 y6, .bool y7, .int .u64 y8, .bool y9, .bool y10, .int .u32 y11])).run Try.prog w = .ok (x0 == y0 && (x1 == y1 && (x2 == y2 && (x3 == y3 && (x4 == y4 && (x5 == y5 && (x6 == y6 && (x7 == y7 && (x8 == y8 && (x9 == y9 && (x10 == y10 && (x11 == y11)))))))))))) w := by
  refine eqA_of Try.underlying34 (by kernel_rfl) ?_
  refine eqf_cons (by rfl) (by go_simp; rfl) (by go_simp; rfl) (by go_simp) ?_
  refine eqf_cons (by rfl) (by go_simp; rfl) (by go_simp; rfl) (by go_simp) ?_
  refine eqf_cons (by rfl) (by go_simp; rfl) (by go_simp; rfl) (by go_simp) ?_
  refine eqf_cons (by rfl) (by go_simp; rfl) (by go_simp; rfl) (by go_simp) ?_
  refine eqf_cons (by rfl) (by go_simp; rfl) (by go_simp; rfl) (by go_simp) ?_
  refine eqf_cons (by rfl) (by go_simp; rfl) (by go_simp; rfl) (by go_simp) ?_
  refine eqf_cons (by rfl) (by go_simp; rfl) (by go_simp; rfl) (by go_simp) ?_
  refine eqf_cons (by rfl) (by go_simp; rfl) (by go_simp; rfl) (by go_simp) ?_
  refine eqf_cons (by rfl) (by go_simp; rfl) (by go_simp; rfl) (by go_simp) ?_
  refine eqf_cons (by rfl) (by go_simp; rfl) (by go_simp; rfl) (by go_simp) ?_
  refine eqf_cons (by rfl) (by go_simp; rfl) (by go_simp; rfl) (by go_simp) ?_
  exact eqf_last (by rfl) (by go_simp; rfl) (by go_simp; rfl) (by go_simp)
structure DeedV where
  what : Int
  wait : Int
  at_ : Int
def kDeed : Kd DeedV := Kd.iso (Kd.pair (Kd.int .u8) (Kd.pair (Kd.int .u8) (Kd.int .u64))) (fun d => (d.what, d.wait, d.at_))
theorem add_f (ad : Addr) (m j : Nat) (hj : 0 < j) : ad.add (m + j) = ⟨(ad.add m).block, (ad.add m).off + j, none⟩ := by
  unfold Addr.add
  by_cases h : m = 0
  · subst h
    have : ¬ j = 0 := by omega
    simp [this]
  · have : ¬ m + j = 0 := by omega
    simp [this, h]
    omega
theorem deed_at {w : World} {A : Option Addr} {n : Nat} {l : List DeedV} (h : Kd.C kDeed w A n l) (k : Nat) (hk : k < n) : ∃ ad, A = some ad ∧ w.cell? (ad.add (k * 3)) = some (.int .u8 (l.getD k ⟨0, 0, 0⟩).what) ∧ w.cell? ⟨(ad.add (k * 3)).block, (ad.add (k * 3)).off + 1, none⟩ = some (.int .u8 (l.getD k ⟨0, 0, 0⟩).wait) ∧ w.cell? ⟨(ad.add (k * 3)).block, (ad.add (k * 3)).off + 2, none⟩ = some (.int .u64 (l.getD k ⟨0, 0, 0⟩).at_) := by
  obtain ⟨ad, c, e, hl, hK, hc⟩ := Kd.C_get h ⟨0, 0, 0⟩ (k : Int) (by omega) (by omega)
  rw [Int.toNat_natCast] at hK hc
  obtain ⟨d, hd⟩ : ∃ d, l.getD k ⟨0, 0, 0⟩ = d := ⟨_, rfl⟩
  rw [hd] at hK ⊢
  have hsz : kDeed.sz = 3 := rfl
  rw [hsz] at hc
  obtain ⟨c1, c2, rfl, h1, h2⟩ := hK
  obtain ⟨c3, c4, rfl, h3, h4⟩ := h2
  cases h1
  cases h3
  cases h4
  refine ⟨ad, e, ?_, ?_, ?_⟩
  · exact hc 0 _ rfl
  · rw [← add_f ad (k * 3) 1 (by omega)]; exact hc 1 _ rfl
  · rw [← add_f ad (k * 3) 2 (by omega)]; exact hc 2 _ rfl
set_option maxHeartbeats 4000000 in
set_option maxRecDepth 100000 in
theorem goes_reg10 (g5 g11 n c k : Nat) (ad : Addr) (x y : InV) (cf : CfV) (what now at_ ask er : Int) (hk : k < n) (hki : (k : Int) < (n : Int)) (hk0 : 0 ≤ (k : Int)) (hat : 0 ≤ at_) (hat2 : at_ ≤ 18446744073709551615) (hdo : ∀ W, Calls Try.prog 23 #[x.val, .int .u8 what, .int .u64 now, .int .u64 (at_ % 1000), cf.val] W fun e w' => e = .returned (encDo (y, ask, er)) ∧ Below W.heap.size W w') {Q : Exit → Act → World → Prop} (a0 : Act) (W0 : World) (hs : a0.tmps.size = 144) (hdf : a0.defers = []) (f1 : a0.eval (.tmp 1) = .slice (some ad) n c) (f5 : a0.eval (.tmp 5) = .pointer (some ⟨g5, 0, none⟩)) (f11 : a0.eval (.tmp 11) = .pointer (some ⟨g11, 0, none⟩)) (f12 : a0.eval (.tmp 12) = .int .u64 now) (f14 : a0.eval (.tmp 14) = .int .i64 (k : Int)) (h5 : W0.heap[g5]? = some (.cells x.cells 34 (0, 0))) (h11 : W0.heap[g11]? = some (.cells cf.cells 41 (0, 0))) (hc0 : W0.cell? (ad.add (k * 3)) = some (.int .u8 what)) (hc2 : W0.cell? ⟨(ad.add (k * 3)).block, (ad.add (k * 3)).off + 2, none⟩ = some (.int .u64 at_)) (hQ : ∀ W g, Below W0.heap.size W0 W → W0.heap.size ≤ g → W.heap[g]? = some (.cells y.cells 34 (0, 0)) → Q .normal (setA a0 [(48, x.val), (49, .slice (some ad) n c), (50, .int .i64 (k : Int)), (51, .pointer (some (ad.add (k * 3)))), (52, .pointer (some (ad.add (k * 3)))), (53, .int .u8 what), (54, .int .u64 now), (55, .slice (some ad) n c), (56, .int .i64 (k : Int)), (57, .pointer (some (ad.add (k * 3)))), (58, .pointer (some ⟨(ad.add (k * 3)).block, (ad.add (k * 3)).off + 2, none⟩)), (59, .int .u64 at_), (60, .int .u64 (at_ % 1000)), (61, cf.val), (62, (encDo (y, ask, er))), (47, (encDo (y, ask, er))), (63, y.val), (64, .int .u8 ask), (65, .int .i64 er), (16, .int .u8 ask), (17, .int .i64 er), (15, .pointer (some ⟨g, 0, none⟩))]) W) : (Code.region 10 #[{ dst := some 48, op := Op.load 34 (Operand.tmp 5), type := 34, pos := "law.go:55", after := #[], guard := none }, { dst := some 49, op := Op.move (Operand.tmp 1), type := 51, pos := "law.go:55", after := #[], guard := none }, { dst := some 50, op := Op.move (Operand.tmp 14), type := 3, pos := "law.go:55", after := #[], guard := none }, { dst := some 51, op := Op.indexAddr 51 (Operand.tmp 49) (Operand.tmp 50), type := 0, pos := "law.go:55", after := #[{ on := 1, ground := Ground.data }, { on := 2, ground := Ground.data }], guard := none }, { dst := some 52, op := Op.fieldAddr 54 (Operand.tmp 51) 0, type := 0, pos := "law.go:55", after := #[{ on := 3, ground := Ground.data }], guard := none }, { dst := some 53, op := Op.load 5 (Operand.tmp 52), type := 5, pos := "law.go:55", after := #[{ on := 4, ground := Ground.data }], guard := none }, { dst := some 54, op := Op.move (Operand.tmp 12), type := 31, pos := "law.go:55", after := #[], guard := none }, { dst := some 55, op := Op.move (Operand.tmp 1), type := 51, pos := "law.go:55", after := #[], guard := none }, { dst := some 56, op := Op.move (Operand.tmp 14), type := 3, pos := "law.go:55", after := #[], guard := none }, { dst := some 57, op := Op.indexAddr 51 (Operand.tmp 55) (Operand.tmp 56), type := 0, pos := "law.go:55", after := #[{ on := 7, ground := Ground.data }, { on := 8, ground := Ground.data }], guard := none }, { dst := some 58, op := Op.fieldAddr 54 (Operand.tmp 57) 2, type := 0, pos := "law.go:55", after := #[{ on := 9, ground := Ground.data }], guard := none }, { dst := some 59, op := Op.load 31 (Operand.tmp 58), type := 31, pos := "law.go:55", after := #[{ on := 10, ground := Ground.data }], guard := none }, { dst := some 60, op := Op.binOp BinOp.rem 31 (Operand.tmp 59) (Operand.const (Value.int IntKind.u64 1000)) 31, type := 31, pos := "law.go:55", after := #[{ on := 11, ground := Ground.data }], guard := none }, { dst := some 61, op := Op.load 41 (Operand.tmp 11), type := 41, pos := "law.go:55", after := #[], guard := none }, { dst := some 62, op := Op.call { callee := Callee.value (Operand.func 23), args := #[Operand.tmp 48, Operand.tmp 53, Operand.tmp 54, Operand.tmp 60, Operand.tmp 61], argTypes := #[34, 5, 31, 31, 41] }, type := 48, pos := "law.go:55", after := #[{ on := 0, ground := Ground.data }, { on := 5, ground := Ground.data }, { on := 6, ground := Ground.data }, { on := 12, ground := Ground.data }, { on := 13, ground := Ground.data }], guard := none }, { dst := some 47, op := Op.move (Operand.tmp 62), type := 48, pos := "law.go:55", after := #[{ on := 14, ground := Ground.data }], guard := none }, { dst := some 63, op := Op.extract (Operand.tmp 47) 0, type := 34, pos := "law.go:55", after := #[{ on := 15, ground := Ground.data }], guard := none }, { dst := some 64, op := Op.extract (Operand.tmp 47) 1, type := 5, pos := "law.go:55", after := #[{ on := 15, ground := Ground.data }, { on := 20, ground := Ground.gcOnly Departure.lateStores }], guard := none }, { dst := some 65, op := Op.extract (Operand.tmp 47) 2, type := 26, pos := "law.go:55", after := #[{ on := 15, ground := Ground.data }, { on := 21, ground := Ground.gcOnly Departure.lateStores }], guard := none }, { dst := some 15, op := Op.alloc 34, type := 0, pos := "law.go:55", after := #[], guard := none }, { dst := none, op := Op.store 34 (Operand.tmp 15) (Operand.tmp 63), type := 0, pos := "law.go:55", after := #[{ on := 19, ground := Ground.data }, { on := 16, ground := Ground.data }, { on := 14, ground := Ground.chain }, { on := 0, ground := Ground.phase }, { on := 1, ground := Ground.phase }, { on := 2, ground := Ground.phase }, { on := 3, ground := Ground.phase }, { on := 4, ground := Ground.phase }, { on := 5, ground := Ground.phase }, { on := 6, ground := Ground.phase }, { on := 7, ground := Ground.phase }, { on := 8, ground := Ground.phase }, { on := 9, ground := Ground.phase }, { on := 10, ground := Ground.phase }, { on := 11, ground := Ground.phase }, { on := 12, ground := Ground.phase }, { on := 13, ground := Ground.phase }, { on := 14, ground := Ground.phase }, { on := 15, ground := Ground.phase }, { on := 16, ground := Ground.phase }, { on := 17, ground := Ground.textOnly Departure.lateStores }, { on := 18, ground := Ground.textOnly Departure.lateStores }, { on := 19, ground := Ground.phase }], guard := none }, { dst := some 16, op := Op.assign (Operand.tmp 64), type := 5, pos := "law.go:55", after := #[{ on := 17, ground := Ground.data }, { on := 20, ground := Ground.chain }, { on := 0, ground := Ground.phase }, { on := 1, ground := Ground.phase }, { on := 2, ground := Ground.phase }, { on := 3, ground := Ground.phase }, { on := 4, ground := Ground.phase }, { on := 5, ground := Ground.phase }, { on := 6, ground := Ground.phase }, { on := 7, ground := Ground.phase }, { on := 8, ground := Ground.phase }, { on := 9, ground := Ground.phase }, { on := 10, ground := Ground.phase }, { on := 11, ground := Ground.phase }, { on := 12, ground := Ground.phase }, { on := 13, ground := Ground.phase }, { on := 14, ground := Ground.phase }, { on := 15, ground := Ground.phase }, { on := 16, ground := Ground.phase }, { on := 17, ground := Ground.phase }, { on := 18, ground := Ground.textOnly Departure.lateStores }, { on := 19, ground := Ground.phase }, { on := 20, ground := Ground.phase }], guard := none }, { dst := some 17, op := Op.assign (Operand.tmp 65), type := 26, pos := "law.go:55", after := #[{ on := 18, ground := Ground.data }, { on := 21, ground := Ground.chain }, { on := 0, ground := Ground.phase }, { on := 1, ground := Ground.phase }, { on := 2, ground := Ground.phase }, { on := 3, ground := Ground.phase }, { on := 4, ground := Ground.phase }, { on := 5, ground := Ground.phase }, { on := 6, ground := Ground.phase }, { on := 7, ground := Ground.phase }, { on := 8, ground := Ground.phase }, { on := 9, ground := Ground.phase }, { on := 10, ground := Ground.phase }, { on := 11, ground := Ground.phase }, { on := 12, ground := Ground.phase }, { on := 13, ground := Ground.phase }, { on := 14, ground := Ground.phase }, { on := 15, ground := Ground.phase }, { on := 16, ground := Ground.phase }, { on := 17, ground := Ground.phase }, { on := 18, ground := Ground.phase }, { on := 19, ground := Ground.phase }, { on := 20, ground := Ground.phase }, { on := 21, ground := Ground.phase }], guard := none }] true).wp Try.prog Q a0 W0 := by
  refine wp_region_inv_at (by kernel_rfl) (fun a0 L a W => a0.tmps.size = 144 ∧ VInv [(0, 48, x.val), (1, 49, .slice (some ad) n c), (2, 50, .int .i64 (k : Int)), (3, 51, .pointer (some (ad.add (k * 3)))), (4, 52, .pointer (some (ad.add (k * 3)))), (5, 53, .int .u8 what), (6, 54, .int .u64 now), (7, 55, .slice (some ad) n c), (8, 56, .int .i64 (k : Int)), (9, 57, .pointer (some (ad.add (k * 3)))), (10, 58, .pointer (some ⟨(ad.add (k * 3)).block, (ad.add (k * 3)).off + 2, none⟩)), (11, 59, .int .u64 at_), (12, 60, .int .u64 (at_ % 1000)), (13, 61, cf.val), (14, 62, (encDo (y, ask, er))), (15, 47, (encDo (y, ask, er))), (16, 63, y.val), (17, 64, .int .u8 ask), (18, 65, .int .i64 er), (21, 16, .int .u8 ask), (22, 17, .int .i64 er)] [48, 49, 50, 51, 52, 53, 54, 55, 56, 57, 58, 59, 60, 61, 62, 47, 63, 64, 65, 16, 17, 15] a0 L a ∧ ∃ g, AInv W0 19 20 15 #[.int .u64 0, .int .u64 0, .int .i64 0, .int .i64 0, .bool false, .int .u8 0, .int .u64 0, .bool false, .int .u64 0, .bool false, .bool false, .int .u32 0] y.cells 34 L a W g) (by kernel_rfl) ⟨hs, VInv.start _ _ _, 0, AInv.start _ (below_drew (Below.refl _ _))⟩ ?_ ?_
  · intro L i' o a W K hI ho hL hdep0 hK
    obtain ⟨hs, hV, g, hA⟩ := hI
    have e1 := (hV.keep 1 (by decide)).trans f1
    have e5 := (hV.keep 5 (by decide)).trans f5
    have e11 := (hV.keep 11 (by decide)).trans f11
    have e12 := (hV.keep 12 (by decide)).trans f12
    have e14 := (hV.keep 14 (by decide)).trans f14
    have hdep := deps o hdep0
    clear hdep0
    match i', ho with
    | 0, ho =>
      simp only [List.getElem?_toArray, List.getElem?_cons_zero, List.getElem?_cons_succ, Option.some.injEq] at ho
      subst ho
      have E5 := e5
      refine stp_load rfl rfl E5 (blk_call hA.below h5) Try.underlying34 rfl (by kernel_rfl) ?_
      exact hK _ _ ⟨hs, hV.put (by show List.Nodup [0, 1, 2, 3, 4, 5, 6, 7, 8, 9, 10, 11, 12, 13, 14, 15, 16, 17, 18, 21, 22]; decide) (by show List.Nodup [48, 49, 50, 51, 52, 53, 54, 55, 56, 57, 58, 59, 60, 61, 62, 47, 63, 64, 65, 16, 17]; decide) 0 rfl (by decide) (by rw [hs]; decide), g, hA.val0 (by decide) (by decide)⟩
    | 1, ho =>
      simp only [List.getElem?_toArray, List.getElem?_cons_zero, List.getElem?_cons_succ, Option.some.injEq] at ho
      subst ho
      have E1 := e1
      refine stp_move rfl (by first | exact .inl rfl | exact .inr rfl) ?_
      rw [E1]
      exact hK _ _ ⟨hs, hV.put (by show List.Nodup [0, 1, 2, 3, 4, 5, 6, 7, 8, 9, 10, 11, 12, 13, 14, 15, 16, 17, 18, 21, 22]; decide) (by show List.Nodup [48, 49, 50, 51, 52, 53, 54, 55, 56, 57, 58, 59, 60, 61, 62, 47, 63, 64, 65, 16, 17]; decide) 1 rfl (by decide) (by rw [hs]; decide), g, hA.val0 (by decide) (by decide)⟩
    | 2, ho =>
      simp only [List.getElem?_toArray, List.getElem?_cons_zero, List.getElem?_cons_succ, Option.some.injEq] at ho
      subst ho
      have E14 := e14
      refine stp_move rfl (by first | exact .inl rfl | exact .inr rfl) ?_
      rw [E14]
      exact hK _ _ ⟨hs, hV.put (by show List.Nodup [0, 1, 2, 3, 4, 5, 6, 7, 8, 9, 10, 11, 12, 13, 14, 15, 16, 17, 18, 21, 22]; decide) (by show List.Nodup [48, 49, 50, 51, 52, 53, 54, 55, 56, 57, 58, 59, 60, 61, 62, 47, 63, 64, 65, 16, 17]; decide) 2 rfl (by decide) (by rw [hs]; decide), g, hA.val0 (by decide) (by decide)⟩
    | 3, ho =>
      simp only [List.getElem?_toArray, List.getElem?_cons_zero, List.getElem?_cons_succ, Option.some.injEq] at ho
      subst ho
      have E49 := hV.get 1 rfl (hdep 1 (by decide))
      have E50 := hV.get 2 rfl (hdep 2 (by decide))
      refine stp2 (v := .pointer (some (ad.add (k * 3)))) (w' := W) (.tmp 49) _ (.tmp 50) _ rfl E49 E50 (fun ρ hc hρ hρ2 => by clear hV hK hA; (first | (go_simp; done) | (go_simp; rfl))) ?_
      exact hK _ _ ⟨hs, hV.put (by show List.Nodup [0, 1, 2, 3, 4, 5, 6, 7, 8, 9, 10, 11, 12, 13, 14, 15, 16, 17, 18, 21, 22]; decide) (by show List.Nodup [48, 49, 50, 51, 52, 53, 54, 55, 56, 57, 58, 59, 60, 61, 62, 47, 63, 64, 65, 16, 17]; decide) 3 rfl (by decide) (by rw [hs]; decide), g, hA.val0 (by decide) (by decide)⟩
    | 4, ho =>
      simp only [List.getElem?_toArray, List.getElem?_cons_zero, List.getElem?_cons_succ, Option.some.injEq] at ho
      subst ho
      have E51 := hV.get 3 rfl (hdep 3 (by decide))
      refine stp1 (v := .pointer (some (ad.add (k * 3)))) (w' := W) (.tmp 51) _ rfl E51 (fun ρ hc hρ => by clear hV hK hA; first | (go_simp; done) | (go_simp; rfl)) ?_
      exact hK _ _ ⟨hs, hV.put (by show List.Nodup [0, 1, 2, 3, 4, 5, 6, 7, 8, 9, 10, 11, 12, 13, 14, 15, 16, 17, 18, 21, 22]; decide) (by show List.Nodup [48, 49, 50, 51, 52, 53, 54, 55, 56, 57, 58, 59, 60, 61, 62, 47, 63, 64, 65, 16, 17]; decide) 4 rfl (by decide) (by rw [hs]; decide), g, hA.val0 (by decide) (by decide)⟩
    | 5, ho =>
      simp only [List.getElem?_toArray, List.getElem?_cons_zero, List.getElem?_cons_succ, Option.some.injEq] at ho
      subst ho
      have E52 := hV.get 4 rfl (hdep 4 (by decide))
      have hcl := (hA.below.cell (World.block_lt_of_cell? _ _ hc0)).trans hc0
      refine stp1 (v := .int .u8 what) (w' := W) (.tmp 52) _ rfl E52 (fun ρ hc hρ => by clear hV hK hA; first | (go_simp; done) | (go_simp; rfl)) ?_
      exact hK _ _ ⟨hs, hV.put (by show List.Nodup [0, 1, 2, 3, 4, 5, 6, 7, 8, 9, 10, 11, 12, 13, 14, 15, 16, 17, 18, 21, 22]; decide) (by show List.Nodup [48, 49, 50, 51, 52, 53, 54, 55, 56, 57, 58, 59, 60, 61, 62, 47, 63, 64, 65, 16, 17]; decide) 5 rfl (by decide) (by rw [hs]; decide), g, hA.val0 (by decide) (by decide)⟩
    | 6, ho =>
      simp only [List.getElem?_toArray, List.getElem?_cons_zero, List.getElem?_cons_succ, Option.some.injEq] at ho
      subst ho
      have E12 := e12
      refine stp_move rfl (by first | exact .inl rfl | exact .inr rfl) ?_
      rw [E12]
      exact hK _ _ ⟨hs, hV.put (by show List.Nodup [0, 1, 2, 3, 4, 5, 6, 7, 8, 9, 10, 11, 12, 13, 14, 15, 16, 17, 18, 21, 22]; decide) (by show List.Nodup [48, 49, 50, 51, 52, 53, 54, 55, 56, 57, 58, 59, 60, 61, 62, 47, 63, 64, 65, 16, 17]; decide) 6 rfl (by decide) (by rw [hs]; decide), g, hA.val0 (by decide) (by decide)⟩
    | 7, ho =>
      simp only [List.getElem?_toArray, List.getElem?_cons_zero, List.getElem?_cons_succ, Option.some.injEq] at ho
      subst ho
      have E1 := e1
      refine stp_move rfl (by first | exact .inl rfl | exact .inr rfl) ?_
      rw [E1]
      exact hK _ _ ⟨hs, hV.put (by show List.Nodup [0, 1, 2, 3, 4, 5, 6, 7, 8, 9, 10, 11, 12, 13, 14, 15, 16, 17, 18, 21, 22]; decide) (by show List.Nodup [48, 49, 50, 51, 52, 53, 54, 55, 56, 57, 58, 59, 60, 61, 62, 47, 63, 64, 65, 16, 17]; decide) 7 rfl (by decide) (by rw [hs]; decide), g, hA.val0 (by decide) (by decide)⟩
    | 8, ho =>
      simp only [List.getElem?_toArray, List.getElem?_cons_zero, List.getElem?_cons_succ, Option.some.injEq] at ho
      subst ho
      have E14 := e14
      refine stp_move rfl (by first | exact .inl rfl | exact .inr rfl) ?_
      rw [E14]
      exact hK _ _ ⟨hs, hV.put (by show List.Nodup [0, 1, 2, 3, 4, 5, 6, 7, 8, 9, 10, 11, 12, 13, 14, 15, 16, 17, 18, 21, 22]; decide) (by show List.Nodup [48, 49, 50, 51, 52, 53, 54, 55, 56, 57, 58, 59, 60, 61, 62, 47, 63, 64, 65, 16, 17]; decide) 8 rfl (by decide) (by rw [hs]; decide), g, hA.val0 (by decide) (by decide)⟩
    | 9, ho =>
      simp only [List.getElem?_toArray, List.getElem?_cons_zero, List.getElem?_cons_succ, Option.some.injEq] at ho
      subst ho
      have E55 := hV.get 7 rfl (hdep 7 (by decide))
      have E56 := hV.get 8 rfl (hdep 8 (by decide))
      refine stp2 (v := .pointer (some (ad.add (k * 3)))) (w' := W) (.tmp 55) _ (.tmp 56) _ rfl E55 E56 (fun ρ hc hρ hρ2 => by clear hV hK hA; (first | (go_simp; done) | (go_simp; rfl))) ?_
      exact hK _ _ ⟨hs, hV.put (by show List.Nodup [0, 1, 2, 3, 4, 5, 6, 7, 8, 9, 10, 11, 12, 13, 14, 15, 16, 17, 18, 21, 22]; decide) (by show List.Nodup [48, 49, 50, 51, 52, 53, 54, 55, 56, 57, 58, 59, 60, 61, 62, 47, 63, 64, 65, 16, 17]; decide) 9 rfl (by decide) (by rw [hs]; decide), g, hA.val0 (by decide) (by decide)⟩
    | 10, ho =>
      simp only [List.getElem?_toArray, List.getElem?_cons_zero, List.getElem?_cons_succ, Option.some.injEq] at ho
      subst ho
      have E57 := hV.get 9 rfl (hdep 9 (by decide))
      refine stp1 (v := .pointer (some ⟨(ad.add (k * 3)).block, (ad.add (k * 3)).off + 2, none⟩)) (w' := W) (.tmp 57) _ rfl E57 (fun ρ hc hρ => by clear hV hK hA; first | (go_simp; done) | (go_simp; rfl)) ?_
      exact hK _ _ ⟨hs, hV.put (by show List.Nodup [0, 1, 2, 3, 4, 5, 6, 7, 8, 9, 10, 11, 12, 13, 14, 15, 16, 17, 18, 21, 22]; decide) (by show List.Nodup [48, 49, 50, 51, 52, 53, 54, 55, 56, 57, 58, 59, 60, 61, 62, 47, 63, 64, 65, 16, 17]; decide) 10 rfl (by decide) (by rw [hs]; decide), g, hA.val0 (by decide) (by decide)⟩
    | 11, ho =>
      simp only [List.getElem?_toArray, List.getElem?_cons_zero, List.getElem?_cons_succ, Option.some.injEq] at ho
      subst ho
      have E58 := hV.get 10 rfl (hdep 10 (by decide))
      have hcl := (hA.below.cell (World.block_lt_of_cell? _ _ hc2)).trans hc2
      refine stp1 (v := .int .u64 at_) (w' := W) (.tmp 58) _ rfl E58 (fun ρ hc hρ => by clear hV hK hA; first | (go_simp; done) | (go_simp; rfl)) ?_
      exact hK _ _ ⟨hs, hV.put (by show List.Nodup [0, 1, 2, 3, 4, 5, 6, 7, 8, 9, 10, 11, 12, 13, 14, 15, 16, 17, 18, 21, 22]; decide) (by show List.Nodup [48, 49, 50, 51, 52, 53, 54, 55, 56, 57, 58, 59, 60, 61, 62, 47, 63, 64, 65, 16, 17]; decide) 11 rfl (by decide) (by rw [hs]; decide), g, hA.val0 (by decide) (by decide)⟩
    | 12, ho =>
      simp only [List.getElem?_toArray, List.getElem?_cons_zero, List.getElem?_cons_succ, Option.some.injEq] at ho
      subst ho
      have E59 := hV.get 11 rfl (hdep 11 (by decide))
      refine stp1 (v := .int .u64 (at_ % 1000)) (w' := W) (.tmp 59) _ rfl E59 (fun ρ hc hρ => by clear hV hK hA; go_simp; rw [Int.tmod_eq_emod_of_nonneg hat]) ?_
      exact hK _ _ ⟨hs, hV.put (by show List.Nodup [0, 1, 2, 3, 4, 5, 6, 7, 8, 9, 10, 11, 12, 13, 14, 15, 16, 17, 18, 21, 22]; decide) (by show List.Nodup [48, 49, 50, 51, 52, 53, 54, 55, 56, 57, 58, 59, 60, 61, 62, 47, 63, 64, 65, 16, 17]; decide) 12 rfl (by decide) (by rw [hs]; decide), g, hA.val0 (by decide) (by decide)⟩
    | 13, ho =>
      simp only [List.getElem?_toArray, List.getElem?_cons_zero, List.getElem?_cons_succ, Option.some.injEq] at ho
      subst ho
      have E11 := e11
      refine stp_load rfl rfl E11 (blk_call hA.below h11) Try.underlying41 rfl (by kernel_rfl) ?_
      exact hK _ _ ⟨hs, hV.put (by show List.Nodup [0, 1, 2, 3, 4, 5, 6, 7, 8, 9, 10, 11, 12, 13, 14, 15, 16, 17, 18, 21, 22]; decide) (by show List.Nodup [48, 49, 50, 51, 52, 53, 54, 55, 56, 57, 58, 59, 60, 61, 62, 47, 63, 64, 65, 16, 17]; decide) 13 rfl (by decide) (by rw [hs]; decide), g, hA.val0 (by decide) (by decide)⟩
    | 14, ho =>
      simp only [List.getElem?_toArray, List.getElem?_cons_zero, List.getElem?_cons_succ, Option.some.injEq] at ho
      subst ho
      have E48 := hV.get 0 rfl (hdep 0 (by decide))
      have E53 := hV.get 5 rfl (hdep 5 (by decide))
      have E54 := hV.get 6 rfl (hdep 6 (by decide))
      have E60 := hV.get 12 rfl (hdep 12 (by decide))
      have E61 := hV.get 13 rfl (hdep 13 (by decide))
      refine stp_call rfl Try.func23 (by kernel_rfl) rfl rfl (args := #[x.val, .int .u8 what, .int .u64 now, .int .u64 (at_ % 1000), cf.val]) (by simp only [List.map_toArray, List.map_cons, List.map_nil, E48, E53, E54, E60, E61] <;> rfl) ?_
      refine (hdo W).mono ?_
      rintro e w2 ⟨rfl, hb2⟩
      exact ⟨_, rfl, hK _ _ ⟨hs, hV.put (by show List.Nodup [0, 1, 2, 3, 4, 5, 6, 7, 8, 9, 10, 11, 12, 13, 14, 15, 16, 17, 18, 21, 22]; decide) (by show List.Nodup [48, 49, 50, 51, 52, 53, 54, 55, 56, 57, 58, 59, 60, 61, 62, 47, 63, 64, 65, 16, 17]; decide) 14 rfl (by decide) (by rw [hs]; decide), g, hA.val (by decide) (by decide) hb2⟩⟩
    | 15, ho =>
      simp only [List.getElem?_toArray, List.getElem?_cons_zero, List.getElem?_cons_succ, Option.some.injEq] at ho
      subst ho
      have E62 := hV.get 14 rfl (hdep 14 (by decide))
      refine stp_move rfl (by first | exact .inl rfl | exact .inr rfl) ?_
      rw [E62]
      exact hK _ _ ⟨hs, hV.put (by show List.Nodup [0, 1, 2, 3, 4, 5, 6, 7, 8, 9, 10, 11, 12, 13, 14, 15, 16, 17, 18, 21, 22]; decide) (by show List.Nodup [48, 49, 50, 51, 52, 53, 54, 55, 56, 57, 58, 59, 60, 61, 62, 47, 63, 64, 65, 16, 17]; decide) 15 rfl (by decide) (by rw [hs]; decide), g, hA.val0 (by decide) (by decide)⟩
    | 16, ho =>
      simp only [List.getElem?_toArray, List.getElem?_cons_zero, List.getElem?_cons_succ, Option.some.injEq] at ho
      subst ho
      have E47 := hV.get 15 rfl (hdep 15 (by decide))
      refine stp1 (v := y.val) (w' := W) (.tmp 47) _ rfl E47 (fun ρ hc hρ => by clear hV hK hA; first | (go_simp; done) | (go_simp; rfl)) ?_
      exact hK _ _ ⟨hs, hV.put (by show List.Nodup [0, 1, 2, 3, 4, 5, 6, 7, 8, 9, 10, 11, 12, 13, 14, 15, 16, 17, 18, 21, 22]; decide) (by show List.Nodup [48, 49, 50, 51, 52, 53, 54, 55, 56, 57, 58, 59, 60, 61, 62, 47, 63, 64, 65, 16, 17]; decide) 16 rfl (by decide) (by rw [hs]; decide), g, hA.val0 (by decide) (by decide)⟩
    | 17, ho =>
      simp only [List.getElem?_toArray, List.getElem?_cons_zero, List.getElem?_cons_succ, Option.some.injEq] at ho
      subst ho
      have E47 := hV.get 15 rfl (hdep 15 (by decide))
      refine stp1 (v := .int .u8 ask) (w' := W) (.tmp 47) _ rfl E47 (fun ρ hc hρ => by clear hV hK hA; first | (go_simp; done) | (go_simp; rfl)) ?_
      exact hK _ _ ⟨hs, hV.put (by show List.Nodup [0, 1, 2, 3, 4, 5, 6, 7, 8, 9, 10, 11, 12, 13, 14, 15, 16, 17, 18, 21, 22]; decide) (by show List.Nodup [48, 49, 50, 51, 52, 53, 54, 55, 56, 57, 58, 59, 60, 61, 62, 47, 63, 64, 65, 16, 17]; decide) 17 rfl (by decide) (by rw [hs]; decide), g, hA.val0 (by decide) (by decide)⟩
    | 18, ho =>
      simp only [List.getElem?_toArray, List.getElem?_cons_zero, List.getElem?_cons_succ, Option.some.injEq] at ho
      subst ho
      have E47 := hV.get 15 rfl (hdep 15 (by decide))
      refine stp1 (v := .int .i64 er) (w' := W) (.tmp 47) _ rfl E47 (fun ρ hc hρ => by clear hV hK hA; first | (go_simp; done) | (go_simp; rfl)) ?_
      exact hK _ _ ⟨hs, hV.put (by show List.Nodup [0, 1, 2, 3, 4, 5, 6, 7, 8, 9, 10, 11, 12, 13, 14, 15, 16, 17, 18, 21, 22]; decide) (by show List.Nodup [48, 49, 50, 51, 52, 53, 54, 55, 56, 57, 58, 59, 60, 61, 62, 47, 63, 64, 65, 16, 17]; decide) 18 rfl (by decide) (by rw [hs]; decide), g, hA.val0 (by decide) (by decide)⟩
    | 19, ho =>
      simp only [List.getElem?_toArray, List.getElem?_cons_zero, List.getElem?_cons_succ, Option.some.injEq] at ho
      subst ho
      refine stp (v := .pointer (some ⟨W.heap.size, 0, none⟩)) (w' := W.alloc (.cells #[.int .u64 0, .int .u64 0, .int .i64 0, .int .i64 0, .bool false, .int .u8 0, .int .u64 0, .bool false, .int .u64 0, .bool false, .bool false, .int .u32 0] 34 (0, 0))) rfl (by clear hV hK hA; first | (go_simp; done) | (go_simp; rfl)) ?_
      exact hK _ _ ⟨hs, hV.other (by show ¬ 19 ∈ [0, 1, 2, 3, 4, 5, 6, 7, 8, 9, 10, 11, 12, 13, 14, 15, 16, 17, 18, 21, 22]; decide) (by show ¬ 15 ∈ [48, 49, 50, 51, 52, 53, 54, 55, 56, 57, 58, 59, 60, 61, 62, 47, 63, 64, 65, 16, 17]; decide) (by decide), _, hA.alloc (by decide) hL (by rw [hV.size, hs]; decide)⟩
    | 20, ho =>
      simp only [List.getElem?_toArray, List.getElem?_cons_zero, List.getElem?_cons_succ, Option.some.injEq] at ho
      subst ho
      have E63 := hV.get 16 rfl (hdep 16 (by decide))
      have hia := hdep 19 (by decide)
      refine ⟨fun _ => wp_store_row 34 _ _ rfl g y.cells (hA.row hia).1 E63 34 _ (by have h3 := (hA.row hia).2.2; rw [hL] at h3; exact h3) (by kernel_rfl) (by rfl) (by simp [InV.cells, Value.oneCell']) ?_, fun h2 => absurd h2 (by simp [Region.wanted])⟩
      exact hK _ _ ⟨hs, hV.skip (by show ¬ 20 ∈ [0, 1, 2, 3, 4, 5, 6, 7, 8, 9, 10, 11, 12, 13, 14, 15, 16, 17, 18, 21, 22]; decide), g, hA.store (by decide) hia hL⟩
    | 21, ho =>
      simp only [List.getElem?_toArray, List.getElem?_cons_zero, List.getElem?_cons_succ, Option.some.injEq] at ho
      subst ho
      have E64 := hV.get 17 rfl (hdep 17 (by decide))
      refine stp_move rfl (by first | exact .inl rfl | exact .inr rfl) ?_
      rw [E64]
      exact hK _ _ ⟨hs, hV.put (by show List.Nodup [0, 1, 2, 3, 4, 5, 6, 7, 8, 9, 10, 11, 12, 13, 14, 15, 16, 17, 18, 21, 22]; decide) (by show List.Nodup [48, 49, 50, 51, 52, 53, 54, 55, 56, 57, 58, 59, 60, 61, 62, 47, 63, 64, 65, 16, 17]; decide) 19 rfl (by decide) (by rw [hs]; decide), g, hA.val0 (by decide) (by decide)⟩
    | 22, ho =>
      simp only [List.getElem?_toArray, List.getElem?_cons_zero, List.getElem?_cons_succ, Option.some.injEq] at ho
      subst ho
      have E65 := hV.get 18 rfl (hdep 18 (by decide))
      refine stp_move rfl (by first | exact .inl rfl | exact .inr rfl) ?_
      rw [E65]
      exact hK _ _ ⟨hs, hV.put (by show List.Nodup [0, 1, 2, 3, 4, 5, 6, 7, 8, 9, 10, 11, 12, 13, 14, 15, 16, 17, 18, 21, 22]; decide) (by show List.Nodup [48, 49, 50, 51, 52, 53, 54, 55, 56, 57, 58, 59, 60, 61, 62, 47, 63, 64, 65, 16, 17]; decide) 20 rfl (by decide) (by rw [hs]; decide), g, hA.val0 (by decide) (by decide)⟩
    | i' + 23, ho => simp at ho
  · intro L a W hI hall
    obtain ⟨hs', hV, g, hA⟩ := hI
    have ha : a = setA a0 [(48, a.eval (.tmp 48)), (49, a.eval (.tmp 49)), (50, a.eval (.tmp 50)), (51, a.eval (.tmp 51)), (52, a.eval (.tmp 52)), (53, a.eval (.tmp 53)), (54, a.eval (.tmp 54)), (55, a.eval (.tmp 55)), (56, a.eval (.tmp 56)), (57, a.eval (.tmp 57)), (58, a.eval (.tmp 58)), (59, a.eval (.tmp 59)), (60, a.eval (.tmp 60)), (61, a.eval (.tmp 61)), (62, a.eval (.tmp 62)), (47, a.eval (.tmp 47)), (63, a.eval (.tmp 63)), (64, a.eval (.tmp 64)), (65, a.eval (.tmp 65)), (16, a.eval (.tmp 16)), (17, a.eval (.tmp 17)), (15, a.eval (.tmp 15))] := hV.act (fun k hk => by rw [hs]; simp at hk; omega)
    rw [hV.get 0 rfl (hall 0 (by decide))] at ha
    rw [hV.get 1 rfl (hall 1 (by decide))] at ha
    rw [hV.get 2 rfl (hall 2 (by decide))] at ha
    rw [hV.get 3 rfl (hall 3 (by decide))] at ha
    rw [hV.get 4 rfl (hall 4 (by decide))] at ha
    rw [hV.get 5 rfl (hall 5 (by decide))] at ha
    rw [hV.get 6 rfl (hall 6 (by decide))] at ha
    rw [hV.get 7 rfl (hall 7 (by decide))] at ha
    rw [hV.get 8 rfl (hall 8 (by decide))] at ha
    rw [hV.get 9 rfl (hall 9 (by decide))] at ha
    rw [hV.get 10 rfl (hall 10 (by decide))] at ha
    rw [hV.get 11 rfl (hall 11 (by decide))] at ha
    rw [hV.get 12 rfl (hall 12 (by decide))] at ha
    rw [hV.get 13 rfl (hall 13 (by decide))] at ha
    rw [hV.get 14 rfl (hall 14 (by decide))] at ha
    rw [hV.get 15 rfl (hall 15 (by decide))] at ha
    rw [hV.get 16 rfl (hall 16 (by decide))] at ha
    rw [hV.get 17 rfl (hall 17 (by decide))] at ha
    rw [hV.get 18 rfl (hall 18 (by decide))] at ha
    rw [hV.get 19 rfl (hall 21 (by decide))] at ha
    rw [hV.get 20 rfl (hall 22 (by decide))] at ha
    obtain ⟨h1, h2, h3⟩ := hA.row (hall 19 (by decide))
    rw [h1] at ha
    rw [hall 20 (by decide)] at h3
    rw [ha]
    exact hQ W g hA.below h2 h3
end Go.Proofs.Ytaoflcmjmhfblaa.I
