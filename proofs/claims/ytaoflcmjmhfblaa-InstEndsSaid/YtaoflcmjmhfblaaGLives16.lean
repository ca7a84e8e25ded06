/- cohortlaw16: conf, lives. -/
import Derived.Test.YtaoflcmjmhfblaaGDo
import Derived.Test.YtaoflcmjmhfblaaGAlloc
namespace Go.Proofs.Ytaoflcmjmhfblaa.I
open Go.RowKit Go.Proofs.YtaoflcmjmhfblaaW.PrintWords Go.Proofs.YtaoflcmjmhfblaaW.PrintLast Go.Proofs.YtaoflcmjmhfblaaW.PrintMore Go.Proofs.Ytaoflcmjmhfblaa.H Go.Shelf
set_option linter.unusedVariables false
set_option linter.unusedSimpArgs false
def conf16 : CfV := ⟨0, 3, 2, 9⟩
set_option maxHeartbeats 1000000 in
theorem conf_calls (w : World) : Calls Try.prog 72 #[] w fun e w' => e = .returned conf16.val ∧ Below w.heap.size w w' := by
  simp only [CfV.val, conf16, CfV.cells]
  go_enter Try.func72, Try.ntmps72
  go_wp2_with (first | ((with_reducible refine gate_storeT 41 rfl ?_); refine wpList_store_row rfl 41 _ _ rfl _ _ rfl rfl 41 _ (heap_alloc_new _ _) (by kernel_rfl) rfl (by simp [Value.oneCell']) ?_; rw [setRow_alloc]))
  exact bodyPost_ret (res_cell rfl rfl (run_loadVar_box 41 _ 41 _ _ _ (heap_alloc_new _ _) Try.underlying41 rfl (by kernel_rfl))) rfl ⟨rfl, (Below.refl _ _).alloc (Nat.le_refl _) _⟩
def i16_0 : InV := ⟨1, 0, 0, 1, false, 3, 0, false, 0, false, false, 0⟩
def d16_0 : InV × Int × Int := doI i16_0 2 5 99 conf16
def i16_1 : InV := ⟨1, 0, 0, 1, false, 4, 7, true, 99, false, false, 0⟩
theorem d16_0e : d16_0 = (i16_1, 0, 0) := by decide +kernel
def d16_1 : InV × Int × Int := doI i16_1 8 6 0 conf16
theorem d16_1e : d16_1 = (i16_1, 0, 0) := by decide +kernel
def d16_2 : InV × Int × Int := doI i16_1 8 7 0 conf16
def i16_3 : InV := ⟨1, 0, 0, 1, false, 5, 10, true, 99, false, false, 0⟩
theorem d16_2e : d16_2 = (i16_3, 0, 0) := by decide +kernel
def d16_3 : InV × Int × Int := doI i16_3 5 8 0 conf16
def i16_4 : InV := ⟨1, 0, 0, 1, false, 6, 0, true, 99, false, false, 0⟩
theorem d16_3e : d16_3 = (i16_4, 2, 0) := by decide +kernel
def d16_4 : InV × Int × Int := doI i16_4 1 9 0 conf16
theorem d16_4e : d16_4 = (i16_4, 0, 12) := by decide +kernel
theorem do16_0 (w : World) : Calls Try.prog 23 #[i16_0.val, .int .u8 2, .int .u64 5, .int .u64 99, conf16.val] w fun e w' => e = .returned (encDo (i16_1, 0, 0)) ∧ Below w.heap.size w w' := by
  have h := do_calls i16_0 2 5 99 conf16 w
  rw [show doI i16_0 2 5 99 conf16 = (i16_1, 0, 0) from d16_0e] at h
  exact h
set_option maxHeartbeats 4000000 in
set_option maxRecDepth 100000 in
theorem lives_reg2 (g0 : Nat) {Q : Exit → Act → World → Prop} (a0 : Act) (W0 : World) (hs : a0.tmps.size = 105) (hdf : a0.defers = []) (f1 : a0.eval (.tmp 1) = .pointer (some ⟨g0, 0, none⟩)) (h0 : W0.heap[g0]? = some (.cells i16_0.cells 34 (0, 0))) (hQ : ∀ W g, Below W0.heap.size W0 W → W0.heap.size ≤ g → W.heap[g]? = some (.cells i16_1.cells 34 (0, 0)) → Q .normal (setA a0 [(19, i16_0.val), (20, conf16.val), (21, (encDo (i16_1, 0, 0))), (18, (encDo (i16_1, 0, 0))), (22, i16_1.val), (23, .int .u8 0), (24, .int .i64 0), (3, .int .u8 0), (4, .int .i64 0), (2, .pointer (some ⟨g, 0, none⟩))]) W) : (Code.region 2 #[{ dst := some 19, op := Op.load 34 (Operand.tmp 1), type := 34, pos := "law.go:16", after := #[], guard := none }, { dst := some 20, op := Op.call { callee := Callee.value (Operand.func 72), args := #[], argTypes := #[] }, type := 41, pos := "law.go:16", after := #[], guard := none }, { dst := some 21, op := Op.call { callee := Callee.value (Operand.func 23), args := #[Operand.tmp 19, Operand.const (Value.int IntKind.u8 2), Operand.const (Value.int IntKind.u64 5), Operand.const (Value.int IntKind.u64 99), Operand.tmp 20], argTypes := #[34, 5, 31, 31, 41] }, type := 48, pos := "law.go:16", after := #[{ on := 0, ground := Ground.data }, { on := 1, ground := Ground.data }, { on := 1, ground := Ground.chain }], guard := none }, { dst := some 18, op := Op.move (Operand.tmp 21), type := 48, pos := "law.go:16", after := #[{ on := 2, ground := Ground.data }], guard := none }, { dst := some 22, op := Op.extract (Operand.tmp 18) 0, type := 34, pos := "law.go:16", after := #[{ on := 3, ground := Ground.data }], guard := none }, { dst := some 23, op := Op.extract (Operand.tmp 18) 1, type := 5, pos := "law.go:16", after := #[{ on := 3, ground := Ground.data }, { on := 8, ground := Ground.gcOnly Departure.lateStores }], guard := none }, { dst := some 24, op := Op.extract (Operand.tmp 18) 2, type := 26, pos := "law.go:16", after := #[{ on := 3, ground := Ground.data }, { on := 9, ground := Ground.gcOnly Departure.lateStores }], guard := none }, { dst := some 2, op := Op.alloc 34, type := 0, pos := "law.go:16", after := #[], guard := none }, { dst := none, op := Op.store 34 (Operand.tmp 2) (Operand.tmp 22), type := 0, pos := "law.go:16", after := #[{ on := 7, ground := Ground.data }, { on := 4, ground := Ground.data }, { on := 2, ground := Ground.chain }, { on := 0, ground := Ground.phase }, { on := 1, ground := Ground.phase }, { on := 2, ground := Ground.phase }, { on := 3, ground := Ground.phase }, { on := 4, ground := Ground.phase }, { on := 5, ground := Ground.textOnly Departure.lateStores }, { on := 6, ground := Ground.textOnly Departure.lateStores }, { on := 7, ground := Ground.phase }], guard := none }, { dst := some 3, op := Op.assign (Operand.tmp 23), type := 5, pos := "law.go:16", after := #[{ on := 5, ground := Ground.data }, { on := 8, ground := Ground.chain }, { on := 0, ground := Ground.phase }, { on := 1, ground := Ground.phase }, { on := 2, ground := Ground.phase }, { on := 3, ground := Ground.phase }, { on := 4, ground := Ground.phase }, { on := 5, ground := Ground.phase }, { on := 6, ground := Ground.textOnly Departure.lateStores }, { on := 7, ground := Ground.phase }, { on := 8, ground := Ground.phase }], guard := none }, { dst := some 4, op := Op.assign (Operand.tmp 24), type := 26, pos := "law.go:16", after := #[{ on := 6, ground := Ground.data }, { on := 9, ground := Ground.chain }, { on := 0, ground := Ground.phase }, { on := 1, ground := Ground.phase }, { on := 2, ground := Ground.phase }, { on := 3, ground := Ground.phase }, { on := 4, ground := Ground.phase }, { on := 5, ground := Ground.phase }, { on := 6, ground := Ground.phase }, { on := 7, ground := Ground.phase }, { on := 8, ground := Ground.phase }, { on := 9, ground := Ground.phase }], guard := none }] true).wp Try.prog Q a0 W0 := by
  refine wp_region_inv_at (by kernel_rfl) (fun a0 L a W => a0.tmps.size = 105 ∧ VInv [(0, 19, i16_0.val), (1, 20, conf16.val), (2, 21, (encDo (i16_1, 0, 0))), (3, 18, (encDo (i16_1, 0, 0))), (4, 22, i16_1.val), (5, 23, .int .u8 0), (6, 24, .int .i64 0), (9, 3, .int .u8 0), (10, 4, .int .i64 0)] [19, 20, 21, 18, 22, 23, 24, 3, 4, 2] a0 L a ∧ ∃ g, AInv W0 7 8 2 #[.int .u64 0, .int .u64 0, .int .i64 0, .int .i64 0, .bool false, .int .u8 0, .int .u64 0, .bool false, .int .u64 0, .bool false, .bool false, .int .u32 0] i16_1.cells 34 L a W g) (by kernel_rfl) ⟨hs, VInv.start _ _ _, 0, AInv.start _ (below_drew (Below.refl _ _))⟩ ?_ ?_
  · intro L i' o a W K hI ho hL hdep0 hK
    obtain ⟨hs, hV, g, hA⟩ := hI
    have e1 := (hV.keep 1 (by decide)).trans f1
    have hdep := deps o hdep0
    clear hdep0
    match i', ho with
    | 0, ho =>
      simp only [List.getElem?_toArray, List.getElem?_cons_zero, List.getElem?_cons_succ, Option.some.injEq] at ho
      subst ho
      have E1 := e1
      refine stp_load rfl rfl E1 (blk_call hA.below h0) Try.underlying34 rfl (by kernel_rfl) ?_
      exact hK _ _ ⟨hs, hV.put (by show List.Nodup [0, 1, 2, 3, 4, 5, 6, 9, 10]; decide) (by show List.Nodup [19, 20, 21, 18, 22, 23, 24, 3, 4]; decide) 0 rfl (by decide) (by rw [hs]; decide), g, hA.val0 (by decide) (by decide)⟩
    | 1, ho =>
      simp only [List.getElem?_toArray, List.getElem?_cons_zero, List.getElem?_cons_succ, Option.some.injEq] at ho
      subst ho
      refine stp_call rfl Try.func72 (by kernel_rfl) rfl rfl (args := #[]) (by simp only [List.map_toArray, List.map_cons, List.map_nil] <;> rfl) ?_
      refine (conf_calls W).mono ?_
      rintro e w2 ⟨rfl, hb2⟩
      exact ⟨_, rfl, hK _ _ ⟨hs, hV.put (by show List.Nodup [0, 1, 2, 3, 4, 5, 6, 9, 10]; decide) (by show List.Nodup [19, 20, 21, 18, 22, 23, 24, 3, 4]; decide) 1 rfl (by decide) (by rw [hs]; decide), g, hA.val (by decide) (by decide) hb2⟩⟩
    | 2, ho =>
      simp only [List.getElem?_toArray, List.getElem?_cons_zero, List.getElem?_cons_succ, Option.some.injEq] at ho
      subst ho
      have E19 := hV.get 0 rfl (hdep 0 (by decide))
      have E20 := hV.get 1 rfl (hdep 1 (by decide))
      refine stp_call rfl Try.func23 (by kernel_rfl) rfl rfl (args := #[i16_0.val, .int .u8 2, .int .u64 5, .int .u64 99, conf16.val]) (by simp only [List.map_toArray, List.map_cons, List.map_nil, E19, E20] <;> rfl) ?_
      refine (do16_0 W).mono ?_
      rintro e w2 ⟨rfl, hb2⟩
      exact ⟨_, rfl, hK _ _ ⟨hs, hV.put (by show List.Nodup [0, 1, 2, 3, 4, 5, 6, 9, 10]; decide) (by show List.Nodup [19, 20, 21, 18, 22, 23, 24, 3, 4]; decide) 2 rfl (by decide) (by rw [hs]; decide), g, hA.val (by decide) (by decide) hb2⟩⟩
    | 3, ho =>
      simp only [List.getElem?_toArray, List.getElem?_cons_zero, List.getElem?_cons_succ, Option.some.injEq] at ho
      subst ho
      have E21 := hV.get 2 rfl (hdep 2 (by decide))
      refine stp_move rfl (by first | exact .inl rfl | exact .inr rfl) ?_
      rw [E21]
      exact hK _ _ ⟨hs, hV.put (by show List.Nodup [0, 1, 2, 3, 4, 5, 6, 9, 10]; decide) (by show List.Nodup [19, 20, 21, 18, 22, 23, 24, 3, 4]; decide) 3 rfl (by decide) (by rw [hs]; decide), g, hA.val0 (by decide) (by decide)⟩
    | 4, ho =>
      simp only [List.getElem?_toArray, List.getElem?_cons_zero, List.getElem?_cons_succ, Option.some.injEq] at ho
      subst ho
      have E18 := hV.get 3 rfl (hdep 3 (by decide))
      refine stp1 (v := i16_1.val) (w' := W) (.tmp 18) _ rfl E18 (fun ρ hc hρ => by clear hV hK hA; first | (go_simp; done) | (go_simp; rfl)) ?_
      exact hK _ _ ⟨hs, hV.put (by show List.Nodup [0, 1, 2, 3, 4, 5, 6, 9, 10]; decide) (by show List.Nodup [19, 20, 21, 18, 22, 23, 24, 3, 4]; decide) 4 rfl (by decide) (by rw [hs]; decide), g, hA.val0 (by decide) (by decide)⟩
    | 5, ho =>
      simp only [List.getElem?_toArray, List.getElem?_cons_zero, List.getElem?_cons_succ, Option.some.injEq] at ho
      subst ho
      have E18 := hV.get 3 rfl (hdep 3 (by decide))
      refine stp1 (v := .int .u8 0) (w' := W) (.tmp 18) _ rfl E18 (fun ρ hc hρ => by clear hV hK hA; first | (go_simp; done) | (go_simp; rfl)) ?_
      exact hK _ _ ⟨hs, hV.put (by show List.Nodup [0, 1, 2, 3, 4, 5, 6, 9, 10]; decide) (by show List.Nodup [19, 20, 21, 18, 22, 23, 24, 3, 4]; decide) 5 rfl (by decide) (by rw [hs]; decide), g, hA.val0 (by decide) (by decide)⟩
    | 6, ho =>
      simp only [List.getElem?_toArray, List.getElem?_cons_zero, List.getElem?_cons_succ, Option.some.injEq] at ho
      subst ho
      have E18 := hV.get 3 rfl (hdep 3 (by decide))
      refine stp1 (v := .int .i64 0) (w' := W) (.tmp 18) _ rfl E18 (fun ρ hc hρ => by clear hV hK hA; first | (go_simp; done) | (go_simp; rfl)) ?_
      exact hK _ _ ⟨hs, hV.put (by show List.Nodup [0, 1, 2, 3, 4, 5, 6, 9, 10]; decide) (by show List.Nodup [19, 20, 21, 18, 22, 23, 24, 3, 4]; decide) 6 rfl (by decide) (by rw [hs]; decide), g, hA.val0 (by decide) (by decide)⟩
    | 7, ho =>
      simp only [List.getElem?_toArray, List.getElem?_cons_zero, List.getElem?_cons_succ, Option.some.injEq] at ho
      subst ho
      refine stp (v := .pointer (some ⟨W.heap.size, 0, none⟩)) (w' := W.alloc (.cells #[.int .u64 0, .int .u64 0, .int .i64 0, .int .i64 0, .bool false, .int .u8 0, .int .u64 0, .bool false, .int .u64 0, .bool false, .bool false, .int .u32 0] 34 (0, 0))) rfl (by clear hV hK hA; first | (go_simp; done) | (go_simp; rfl)) ?_
      exact hK _ _ ⟨hs, hV.other (by show ¬ 7 ∈ [0, 1, 2, 3, 4, 5, 6, 9, 10]; decide) (by show ¬ 2 ∈ [19, 20, 21, 18, 22, 23, 24, 3, 4]; decide) (by decide), _, hA.alloc (by decide) hL (by rw [hV.size, hs]; decide)⟩
    | 8, ho =>
      simp only [List.getElem?_toArray, List.getElem?_cons_zero, List.getElem?_cons_succ, Option.some.injEq] at ho
      subst ho
      have E22 := hV.get 4 rfl (hdep 4 (by decide))
      have hia := hdep 7 (by decide)
      refine ⟨fun _ => wp_store_row 34 _ _ rfl g i16_1.cells (hA.row hia).1 E22 34 _ (by have h3 := (hA.row hia).2.2; rw [hL] at h3; exact h3) (by kernel_rfl) (by rfl) (by simp [InV.cells, Value.oneCell']) ?_, fun h2 => absurd h2 (by simp [Region.wanted])⟩
      exact hK _ _ ⟨hs, hV.skip (by show ¬ 8 ∈ [0, 1, 2, 3, 4, 5, 6, 9, 10]; decide), g, hA.store (by decide) hia hL⟩
    | 9, ho =>
      simp only [List.getElem?_toArray, List.getElem?_cons_zero, List.getElem?_cons_succ, Option.some.injEq] at ho
      subst ho
      have E23 := hV.get 5 rfl (hdep 5 (by decide))
      refine stp_move rfl (by first | exact .inl rfl | exact .inr rfl) ?_
      rw [E23]
      exact hK _ _ ⟨hs, hV.put (by show List.Nodup [0, 1, 2, 3, 4, 5, 6, 9, 10]; decide) (by show List.Nodup [19, 20, 21, 18, 22, 23, 24, 3, 4]; decide) 7 rfl (by decide) (by rw [hs]; decide), g, hA.val0 (by decide) (by decide)⟩
    | 10, ho =>
      simp only [List.getElem?_toArray, List.getElem?_cons_zero, List.getElem?_cons_succ, Option.some.injEq] at ho
      subst ho
      have E24 := hV.get 6 rfl (hdep 6 (by decide))
      refine stp_move rfl (by first | exact .inl rfl | exact .inr rfl) ?_
      rw [E24]
      exact hK _ _ ⟨hs, hV.put (by show List.Nodup [0, 1, 2, 3, 4, 5, 6, 9, 10]; decide) (by show List.Nodup [19, 20, 21, 18, 22, 23, 24, 3, 4]; decide) 8 rfl (by decide) (by rw [hs]; decide), g, hA.val0 (by decide) (by decide)⟩
    | i' + 11, ho => simp at ho
  · intro L a W hI hall
    obtain ⟨hs', hV, g, hA⟩ := hI
    have ha : a = setA a0 [(19, a.eval (.tmp 19)), (20, a.eval (.tmp 20)), (21, a.eval (.tmp 21)), (18, a.eval (.tmp 18)), (22, a.eval (.tmp 22)), (23, a.eval (.tmp 23)), (24, a.eval (.tmp 24)), (3, a.eval (.tmp 3)), (4, a.eval (.tmp 4)), (2, a.eval (.tmp 2))] := hV.act (fun k hk => by rw [hs]; simp at hk; omega)
    rw [hV.get 0 rfl (hall 0 (by decide))] at ha
    rw [hV.get 1 rfl (hall 1 (by decide))] at ha
    rw [hV.get 2 rfl (hall 2 (by decide))] at ha
    rw [hV.get 3 rfl (hall 3 (by decide))] at ha
    rw [hV.get 4 rfl (hall 4 (by decide))] at ha
    rw [hV.get 5 rfl (hall 5 (by decide))] at ha
    rw [hV.get 6 rfl (hall 6 (by decide))] at ha
    rw [hV.get 7 rfl (hall 9 (by decide))] at ha
    rw [hV.get 8 rfl (hall 10 (by decide))] at ha
    obtain ⟨h1, h2, h3⟩ := hA.row (hall 7 (by decide))
    rw [h1] at ha
    rw [hall 8 (by decide)] at h3
    rw [ha]
    exact hQ W g hA.below h2 h3
theorem do16_1 (w : World) : Calls Try.prog 23 #[i16_1.val, .int .u8 8, .int .u64 6, .int .u64 0, conf16.val] w fun e w' => e = .returned (encDo (i16_1, 0, 0)) ∧ Below w.heap.size w w' := by
  have h := do_calls i16_1 8 6 0 conf16 w
  rw [show doI i16_1 8 6 0 conf16 = (i16_1, 0, 0) from d16_1e] at h
  exact h
set_option maxHeartbeats 4000000 in
set_option maxRecDepth 100000 in
theorem lives_reg3 (g0 : Nat) {Q : Exit → Act → World → Prop} (a0 : Act) (W0 : World) (hs : a0.tmps.size = 105) (hdf : a0.defers = []) (f2 : a0.eval (.tmp 2) = .pointer (some ⟨g0, 0, none⟩)) (h0 : W0.heap[g0]? = some (.cells i16_1.cells 34 (0, 0))) (hQ : ∀ W g, Below W0.heap.size W0 W → W0.heap.size ≤ g → W.heap[g]? = some (.cells i16_1.cells 34 (0, 0)) → Q .normal (setA a0 [(26, i16_1.val), (27, conf16.val), (28, (encDo (i16_1, 0, 0))), (25, (encDo (i16_1, 0, 0))), (29, i16_1.val), (30, .int .u8 0), (31, .int .i64 0), (6, .int .u8 0), (7, .int .i64 0), (5, .pointer (some ⟨g, 0, none⟩))]) W) : (Code.region 3 #[{ dst := some 26, op := Op.load 34 (Operand.tmp 2), type := 34, pos := "law.go:17", after := #[], guard := none }, { dst := some 27, op := Op.call { callee := Callee.value (Operand.func 72), args := #[], argTypes := #[] }, type := 41, pos := "law.go:17", after := #[], guard := none }, { dst := some 28, op := Op.call { callee := Callee.value (Operand.func 23), args := #[Operand.tmp 26, Operand.const (Value.int IntKind.u8 8), Operand.const (Value.int IntKind.u64 6), Operand.const (Value.int IntKind.u64 0), Operand.tmp 27], argTypes := #[34, 5, 31, 31, 41] }, type := 48, pos := "law.go:17", after := #[{ on := 0, ground := Ground.data }, { on := 1, ground := Ground.data }, { on := 1, ground := Ground.chain }], guard := none }, { dst := some 25, op := Op.move (Operand.tmp 28), type := 48, pos := "law.go:17", after := #[{ on := 2, ground := Ground.data }], guard := none }, { dst := some 29, op := Op.extract (Operand.tmp 25) 0, type := 34, pos := "law.go:17", after := #[{ on := 3, ground := Ground.data }], guard := none }, { dst := some 30, op := Op.extract (Operand.tmp 25) 1, type := 5, pos := "law.go:17", after := #[{ on := 3, ground := Ground.data }, { on := 8, ground := Ground.gcOnly Departure.lateStores }], guard := none }, { dst := some 31, op := Op.extract (Operand.tmp 25) 2, type := 26, pos := "law.go:17", after := #[{ on := 3, ground := Ground.data }, { on := 9, ground := Ground.gcOnly Departure.lateStores }], guard := none }, { dst := some 5, op := Op.alloc 34, type := 0, pos := "law.go:17", after := #[], guard := none }, { dst := none, op := Op.store 34 (Operand.tmp 5) (Operand.tmp 29), type := 0, pos := "law.go:17", after := #[{ on := 7, ground := Ground.data }, { on := 4, ground := Ground.data }, { on := 2, ground := Ground.chain }, { on := 0, ground := Ground.phase }, { on := 1, ground := Ground.phase }, { on := 2, ground := Ground.phase }, { on := 3, ground := Ground.phase }, { on := 4, ground := Ground.phase }, { on := 5, ground := Ground.textOnly Departure.lateStores }, { on := 6, ground := Ground.textOnly Departure.lateStores }, { on := 7, ground := Ground.phase }], guard := none }, { dst := some 6, op := Op.assign (Operand.tmp 30), type := 5, pos := "law.go:17", after := #[{ on := 5, ground := Ground.data }, { on := 8, ground := Ground.chain }, { on := 0, ground := Ground.phase }, { on := 1, ground := Ground.phase }, { on := 2, ground := Ground.phase }, { on := 3, ground := Ground.phase }, { on := 4, ground := Ground.phase }, { on := 5, ground := Ground.phase }, { on := 6, ground := Ground.textOnly Departure.lateStores }, { on := 7, ground := Ground.phase }, { on := 8, ground := Ground.phase }], guard := none }, { dst := some 7, op := Op.assign (Operand.tmp 31), type := 26, pos := "law.go:17", after := #[{ on := 6, ground := Ground.data }, { on := 9, ground := Ground.chain }, { on := 0, ground := Ground.phase }, { on := 1, ground := Ground.phase }, { on := 2, ground := Ground.phase }, { on := 3, ground := Ground.phase }, { on := 4, ground := Ground.phase }, { on := 5, ground := Ground.phase }, { on := 6, ground := Ground.phase }, { on := 7, ground := Ground.phase }, { on := 8, ground := Ground.phase }, { on := 9, ground := Ground.phase }], guard := none }] true).wp Try.prog Q a0 W0 := by
  refine wp_region_inv_at (by kernel_rfl) (fun a0 L a W => a0.tmps.size = 105 ∧ VInv [(0, 26, i16_1.val), (1, 27, conf16.val), (2, 28, (encDo (i16_1, 0, 0))), (3, 25, (encDo (i16_1, 0, 0))), (4, 29, i16_1.val), (5, 30, .int .u8 0), (6, 31, .int .i64 0), (9, 6, .int .u8 0), (10, 7, .int .i64 0)] [26, 27, 28, 25, 29, 30, 31, 6, 7, 5] a0 L a ∧ ∃ g, AInv W0 7 8 5 #[.int .u64 0, .int .u64 0, .int .i64 0, .int .i64 0, .bool false, .int .u8 0, .int .u64 0, .bool false, .int .u64 0, .bool false, .bool false, .int .u32 0] i16_1.cells 34 L a W g) (by kernel_rfl) ⟨hs, VInv.start _ _ _, 0, AInv.start _ (below_drew (Below.refl _ _))⟩ ?_ ?_
  · intro L i' o a W K hI ho hL hdep0 hK
    obtain ⟨hs, hV, g, hA⟩ := hI
    have e2 := (hV.keep 2 (by decide)).trans f2
    have hdep := deps o hdep0
    clear hdep0
    match i', ho with
    | 0, ho =>
      simp only [List.getElem?_toArray, List.getElem?_cons_zero, List.getElem?_cons_succ, Option.some.injEq] at ho
      subst ho
      have E2 := e2
      refine stp_load rfl rfl E2 (blk_call hA.below h0) Try.underlying34 rfl (by kernel_rfl) ?_
      exact hK _ _ ⟨hs, hV.put (by show List.Nodup [0, 1, 2, 3, 4, 5, 6, 9, 10]; decide) (by show List.Nodup [26, 27, 28, 25, 29, 30, 31, 6, 7]; decide) 0 rfl (by decide) (by rw [hs]; decide), g, hA.val0 (by decide) (by decide)⟩
    | 1, ho =>
      simp only [List.getElem?_toArray, List.getElem?_cons_zero, List.getElem?_cons_succ, Option.some.injEq] at ho
      subst ho
      refine stp_call rfl Try.func72 (by kernel_rfl) rfl rfl (args := #[]) (by simp only [List.map_toArray, List.map_cons, List.map_nil] <;> rfl) ?_
      refine (conf_calls W).mono ?_
      rintro e w2 ⟨rfl, hb2⟩
      exact ⟨_, rfl, hK _ _ ⟨hs, hV.put (by show List.Nodup [0, 1, 2, 3, 4, 5, 6, 9, 10]; decide) (by show List.Nodup [26, 27, 28, 25, 29, 30, 31, 6, 7]; decide) 1 rfl (by decide) (by rw [hs]; decide), g, hA.val (by decide) (by decide) hb2⟩⟩
    | 2, ho =>
      simp only [List.getElem?_toArray, List.getElem?_cons_zero, List.getElem?_cons_succ, Option.some.injEq] at ho
      subst ho
      have E26 := hV.get 0 rfl (hdep 0 (by decide))
      have E27 := hV.get 1 rfl (hdep 1 (by decide))
      refine stp_call rfl Try.func23 (by kernel_rfl) rfl rfl (args := #[i16_1.val, .int .u8 8, .int .u64 6, .int .u64 0, conf16.val]) (by simp only [List.map_toArray, List.map_cons, List.map_nil, E26, E27] <;> rfl) ?_
      refine (do16_1 W).mono ?_
      rintro e w2 ⟨rfl, hb2⟩
      exact ⟨_, rfl, hK _ _ ⟨hs, hV.put (by show List.Nodup [0, 1, 2, 3, 4, 5, 6, 9, 10]; decide) (by show List.Nodup [26, 27, 28, 25, 29, 30, 31, 6, 7]; decide) 2 rfl (by decide) (by rw [hs]; decide), g, hA.val (by decide) (by decide) hb2⟩⟩
    | 3, ho =>
      simp only [List.getElem?_toArray, List.getElem?_cons_zero, List.getElem?_cons_succ, Option.some.injEq] at ho
      subst ho
      have E28 := hV.get 2 rfl (hdep 2 (by decide))
      refine stp_move rfl (by first | exact .inl rfl | exact .inr rfl) ?_
      rw [E28]
      exact hK _ _ ⟨hs, hV.put (by show List.Nodup [0, 1, 2, 3, 4, 5, 6, 9, 10]; decide) (by show List.Nodup [26, 27, 28, 25, 29, 30, 31, 6, 7]; decide) 3 rfl (by decide) (by rw [hs]; decide), g, hA.val0 (by decide) (by decide)⟩
    | 4, ho =>
      simp only [List.getElem?_toArray, List.getElem?_cons_zero, List.getElem?_cons_succ, Option.some.injEq] at ho
      subst ho
      have E25 := hV.get 3 rfl (hdep 3 (by decide))
      refine stp1 (v := i16_1.val) (w' := W) (.tmp 25) _ rfl E25 (fun ρ hc hρ => by clear hV hK hA; first | (go_simp; done) | (go_simp; rfl)) ?_
      exact hK _ _ ⟨hs, hV.put (by show List.Nodup [0, 1, 2, 3, 4, 5, 6, 9, 10]; decide) (by show List.Nodup [26, 27, 28, 25, 29, 30, 31, 6, 7]; decide) 4 rfl (by decide) (by rw [hs]; decide), g, hA.val0 (by decide) (by decide)⟩
    | 5, ho =>
      simp only [List.getElem?_toArray, List.getElem?_cons_zero, List.getElem?_cons_succ, Option.some.injEq] at ho
      subst ho
      have E25 := hV.get 3 rfl (hdep 3 (by decide))
      refine stp1 (v := .int .u8 0) (w' := W) (.tmp 25) _ rfl E25 (fun ρ hc hρ => by clear hV hK hA; first | (go_simp; done) | (go_simp; rfl)) ?_
      exact hK _ _ ⟨hs, hV.put (by show List.Nodup [0, 1, 2, 3, 4, 5, 6, 9, 10]; decide) (by show List.Nodup [26, 27, 28, 25, 29, 30, 31, 6, 7]; decide) 5 rfl (by decide) (by rw [hs]; decide), g, hA.val0 (by decide) (by decide)⟩
    | 6, ho =>
      simp only [List.getElem?_toArray, List.getElem?_cons_zero, List.getElem?_cons_succ, Option.some.injEq] at ho
      subst ho
      have E25 := hV.get 3 rfl (hdep 3 (by decide))
      refine stp1 (v := .int .i64 0) (w' := W) (.tmp 25) _ rfl E25 (fun ρ hc hρ => by clear hV hK hA; first | (go_simp; done) | (go_simp; rfl)) ?_
      exact hK _ _ ⟨hs, hV.put (by show List.Nodup [0, 1, 2, 3, 4, 5, 6, 9, 10]; decide) (by show List.Nodup [26, 27, 28, 25, 29, 30, 31, 6, 7]; decide) 6 rfl (by decide) (by rw [hs]; decide), g, hA.val0 (by decide) (by decide)⟩
    | 7, ho =>
      simp only [List.getElem?_toArray, List.getElem?_cons_zero, List.getElem?_cons_succ, Option.some.injEq] at ho
      subst ho
      refine stp (v := .pointer (some ⟨W.heap.size, 0, none⟩)) (w' := W.alloc (.cells #[.int .u64 0, .int .u64 0, .int .i64 0, .int .i64 0, .bool false, .int .u8 0, .int .u64 0, .bool false, .int .u64 0, .bool false, .bool false, .int .u32 0] 34 (0, 0))) rfl (by clear hV hK hA; first | (go_simp; done) | (go_simp; rfl)) ?_
      exact hK _ _ ⟨hs, hV.other (by show ¬ 7 ∈ [0, 1, 2, 3, 4, 5, 6, 9, 10]; decide) (by show ¬ 5 ∈ [26, 27, 28, 25, 29, 30, 31, 6, 7]; decide) (by decide), _, hA.alloc (by decide) hL (by rw [hV.size, hs]; decide)⟩
    | 8, ho =>
      simp only [List.getElem?_toArray, List.getElem?_cons_zero, List.getElem?_cons_succ, Option.some.injEq] at ho
      subst ho
      have E29 := hV.get 4 rfl (hdep 4 (by decide))
      have hia := hdep 7 (by decide)
      refine ⟨fun _ => wp_store_row 34 _ _ rfl g i16_1.cells (hA.row hia).1 E29 34 _ (by have h3 := (hA.row hia).2.2; rw [hL] at h3; exact h3) (by kernel_rfl) (by rfl) (by simp [InV.cells, Value.oneCell']) ?_, fun h2 => absurd h2 (by simp [Region.wanted])⟩
      exact hK _ _ ⟨hs, hV.skip (by show ¬ 8 ∈ [0, 1, 2, 3, 4, 5, 6, 9, 10]; decide), g, hA.store (by decide) hia hL⟩
    | 9, ho =>
      simp only [List.getElem?_toArray, List.getElem?_cons_zero, List.getElem?_cons_succ, Option.some.injEq] at ho
      subst ho
      have E30 := hV.get 5 rfl (hdep 5 (by decide))
      refine stp_move rfl (by first | exact .inl rfl | exact .inr rfl) ?_
      rw [E30]
      exact hK _ _ ⟨hs, hV.put (by show List.Nodup [0, 1, 2, 3, 4, 5, 6, 9, 10]; decide) (by show List.Nodup [26, 27, 28, 25, 29, 30, 31, 6, 7]; decide) 7 rfl (by decide) (by rw [hs]; decide), g, hA.val0 (by decide) (by decide)⟩
    | 10, ho =>
      simp only [List.getElem?_toArray, List.getElem?_cons_zero, List.getElem?_cons_succ, Option.some.injEq] at ho
      subst ho
      have E31 := hV.get 6 rfl (hdep 6 (by decide))
      refine stp_move rfl (by first | exact .inl rfl | exact .inr rfl) ?_
      rw [E31]
      exact hK _ _ ⟨hs, hV.put (by show List.Nodup [0, 1, 2, 3, 4, 5, 6, 9, 10]; decide) (by show List.Nodup [26, 27, 28, 25, 29, 30, 31, 6, 7]; decide) 8 rfl (by decide) (by rw [hs]; decide), g, hA.val0 (by decide) (by decide)⟩
    | i' + 11, ho => simp at ho
  · intro L a W hI hall
    obtain ⟨hs', hV, g, hA⟩ := hI
    have ha : a = setA a0 [(26, a.eval (.tmp 26)), (27, a.eval (.tmp 27)), (28, a.eval (.tmp 28)), (25, a.eval (.tmp 25)), (29, a.eval (.tmp 29)), (30, a.eval (.tmp 30)), (31, a.eval (.tmp 31)), (6, a.eval (.tmp 6)), (7, a.eval (.tmp 7)), (5, a.eval (.tmp 5))] := hV.act (fun k hk => by rw [hs]; simp at hk; omega)
    rw [hV.get 0 rfl (hall 0 (by decide))] at ha
    rw [hV.get 1 rfl (hall 1 (by decide))] at ha
    rw [hV.get 2 rfl (hall 2 (by decide))] at ha
    rw [hV.get 3 rfl (hall 3 (by decide))] at ha
    rw [hV.get 4 rfl (hall 4 (by decide))] at ha
    rw [hV.get 5 rfl (hall 5 (by decide))] at ha
    rw [hV.get 6 rfl (hall 6 (by decide))] at ha
    rw [hV.get 7 rfl (hall 9 (by decide))] at ha
    rw [hV.get 8 rfl (hall 10 (by decide))] at ha
    obtain ⟨h1, h2, h3⟩ := hA.row (hall 7 (by decide))
    rw [h1] at ha
    rw [hall 8 (by decide)] at h3
    rw [ha]
    exact hQ W g hA.below h2 h3
theorem do16_2 (w : World) : Calls Try.prog 23 #[i16_1.val, .int .u8 8, .int .u64 7, .int .u64 0, conf16.val] w fun e w' => e = .returned (encDo (i16_3, 0, 0)) ∧ Below w.heap.size w w' := by
  have h := do_calls i16_1 8 7 0 conf16 w
  rw [show doI i16_1 8 7 0 conf16 = (i16_3, 0, 0) from d16_2e] at h
  exact h
set_option maxHeartbeats 4000000 in
set_option maxRecDepth 100000 in
theorem lives_reg4 (g0 : Nat) {Q : Exit → Act → World → Prop} (a0 : Act) (W0 : World) (hs : a0.tmps.size = 105) (hdf : a0.defers = []) (f5 : a0.eval (.tmp 5) = .pointer (some ⟨g0, 0, none⟩)) (h0 : W0.heap[g0]? = some (.cells i16_1.cells 34 (0, 0))) (hQ : ∀ W g, Below W0.heap.size W0 W → W0.heap.size ≤ g → W.heap[g]? = some (.cells i16_3.cells 34 (0, 0)) → Q .normal (setA a0 [(33, i16_1.val), (34, conf16.val), (35, (encDo (i16_3, 0, 0))), (32, (encDo (i16_3, 0, 0))), (36, i16_3.val), (37, .int .u8 0), (38, .int .i64 0), (9, .int .u8 0), (10, .int .i64 0), (8, .pointer (some ⟨g, 0, none⟩))]) W) : (Code.region 4 #[{ dst := some 33, op := Op.load 34 (Operand.tmp 5), type := 34, pos := "law.go:18", after := #[], guard := none }, { dst := some 34, op := Op.call { callee := Callee.value (Operand.func 72), args := #[], argTypes := #[] }, type := 41, pos := "law.go:18", after := #[], guard := none }, { dst := some 35, op := Op.call { callee := Callee.value (Operand.func 23), args := #[Operand.tmp 33, Operand.const (Value.int IntKind.u8 8), Operand.const (Value.int IntKind.u64 7), Operand.const (Value.int IntKind.u64 0), Operand.tmp 34], argTypes := #[34, 5, 31, 31, 41] }, type := 48, pos := "law.go:18", after := #[{ on := 0, ground := Ground.data }, { on := 1, ground := Ground.data }, { on := 1, ground := Ground.chain }], guard := none }, { dst := some 32, op := Op.move (Operand.tmp 35), type := 48, pos := "law.go:18", after := #[{ on := 2, ground := Ground.data }], guard := none }, { dst := some 36, op := Op.extract (Operand.tmp 32) 0, type := 34, pos := "law.go:18", after := #[{ on := 3, ground := Ground.data }], guard := none }, { dst := some 37, op := Op.extract (Operand.tmp 32) 1, type := 5, pos := "law.go:18", after := #[{ on := 3, ground := Ground.data }, { on := 8, ground := Ground.gcOnly Departure.lateStores }], guard := none }, { dst := some 38, op := Op.extract (Operand.tmp 32) 2, type := 26, pos := "law.go:18", after := #[{ on := 3, ground := Ground.data }, { on := 9, ground := Ground.gcOnly Departure.lateStores }], guard := none }, { dst := some 8, op := Op.alloc 34, type := 0, pos := "law.go:18", after := #[], guard := none }, { dst := none, op := Op.store 34 (Operand.tmp 8) (Operand.tmp 36), type := 0, pos := "law.go:18", after := #[{ on := 7, ground := Ground.data }, { on := 4, ground := Ground.data }, { on := 2, ground := Ground.chain }, { on := 0, ground := Ground.phase }, { on := 1, ground := Ground.phase }, { on := 2, ground := Ground.phase }, { on := 3, ground := Ground.phase }, { on := 4, ground := Ground.phase }, { on := 5, ground := Ground.textOnly Departure.lateStores }, { on := 6, ground := Ground.textOnly Departure.lateStores }, { on := 7, ground := Ground.phase }], guard := none }, { dst := some 9, op := Op.assign (Operand.tmp 37), type := 5, pos := "law.go:18", after := #[{ on := 5, ground := Ground.data }, { on := 8, ground := Ground.chain }, { on := 0, ground := Ground.phase }, { on := 1, ground := Ground.phase }, { on := 2, ground := Ground.phase }, { on := 3, ground := Ground.phase }, { on := 4, ground := Ground.phase }, { on := 5, ground := Ground.phase }, { on := 6, ground := Ground.textOnly Departure.lateStores }, { on := 7, ground := Ground.phase }, { on := 8, ground := Ground.phase }], guard := none }, { dst := some 10, op := Op.assign (Operand.tmp 38), type := 26, pos := "law.go:18", after := #[{ on := 6, ground := Ground.data }, { on := 9, ground := Ground.chain }, { on := 0, ground := Ground.phase }, { on := 1, ground := Ground.phase }, { on := 2, ground := Ground.phase }, { on := 3, ground := Ground.phase }, { on := 4, ground := Ground.phase }, { on := 5, ground := Ground.phase }, { on := 6, ground := Ground.phase }, { on := 7, ground := Ground.phase }, { on := 8, ground := Ground.phase }, { on := 9, ground := Ground.phase }], guard := none }] true).wp Try.prog Q a0 W0 := by
  refine wp_region_inv_at (by kernel_rfl) (fun a0 L a W => a0.tmps.size = 105 ∧ VInv [(0, 33, i16_1.val), (1, 34, conf16.val), (2, 35, (encDo (i16_3, 0, 0))), (3, 32, (encDo (i16_3, 0, 0))), (4, 36, i16_3.val), (5, 37, .int .u8 0), (6, 38, .int .i64 0), (9, 9, .int .u8 0), (10, 10, .int .i64 0)] [33, 34, 35, 32, 36, 37, 38, 9, 10, 8] a0 L a ∧ ∃ g, AInv W0 7 8 8 #[.int .u64 0, .int .u64 0, .int .i64 0, .int .i64 0, .bool false, .int .u8 0, .int .u64 0, .bool false, .int .u64 0, .bool false, .bool false, .int .u32 0] i16_3.cells 34 L a W g) (by kernel_rfl) ⟨hs, VInv.start _ _ _, 0, AInv.start _ (below_drew (Below.refl _ _))⟩ ?_ ?_
  · intro L i' o a W K hI ho hL hdep0 hK
    obtain ⟨hs, hV, g, hA⟩ := hI
    have e5 := (hV.keep 5 (by decide)).trans f5
    have hdep := deps o hdep0
    clear hdep0
    match i', ho with
    | 0, ho =>
      simp only [List.getElem?_toArray, List.getElem?_cons_zero, List.getElem?_cons_succ, Option.some.injEq] at ho
      subst ho
      have E5 := e5
      refine stp_load rfl rfl E5 (blk_call hA.below h0) Try.underlying34 rfl (by kernel_rfl) ?_
      exact hK _ _ ⟨hs, hV.put (by show List.Nodup [0, 1, 2, 3, 4, 5, 6, 9, 10]; decide) (by show List.Nodup [33, 34, 35, 32, 36, 37, 38, 9, 10]; decide) 0 rfl (by decide) (by rw [hs]; decide), g, hA.val0 (by decide) (by decide)⟩
    | 1, ho =>
      simp only [List.getElem?_toArray, List.getElem?_cons_zero, List.getElem?_cons_succ, Option.some.injEq] at ho
      subst ho
      refine stp_call rfl Try.func72 (by kernel_rfl) rfl rfl (args := #[]) (by simp only [List.map_toArray, List.map_cons, List.map_nil] <;> rfl) ?_
      refine (conf_calls W).mono ?_
      rintro e w2 ⟨rfl, hb2⟩
      exact ⟨_, rfl, hK _ _ ⟨hs, hV.put (by show List.Nodup [0, 1, 2, 3, 4, 5, 6, 9, 10]; decide) (by show List.Nodup [33, 34, 35, 32, 36, 37, 38, 9, 10]; decide) 1 rfl (by decide) (by rw [hs]; decide), g, hA.val (by decide) (by decide) hb2⟩⟩
    | 2, ho =>
      simp only [List.getElem?_toArray, List.getElem?_cons_zero, List.getElem?_cons_succ, Option.some.injEq] at ho
      subst ho
      have E33 := hV.get 0 rfl (hdep 0 (by decide))
      have E34 := hV.get 1 rfl (hdep 1 (by decide))
      refine stp_call rfl Try.func23 (by kernel_rfl) rfl rfl (args := #[i16_1.val, .int .u8 8, .int .u64 7, .int .u64 0, conf16.val]) (by simp only [List.map_toArray, List.map_cons, List.map_nil, E33, E34] <;> rfl) ?_
      refine (do16_2 W).mono ?_
      rintro e w2 ⟨rfl, hb2⟩
      exact ⟨_, rfl, hK _ _ ⟨hs, hV.put (by show List.Nodup [0, 1, 2, 3, 4, 5, 6, 9, 10]; decide) (by show List.Nodup [33, 34, 35, 32, 36, 37, 38, 9, 10]; decide) 2 rfl (by decide) (by rw [hs]; decide), g, hA.val (by decide) (by decide) hb2⟩⟩
    | 3, ho =>
      simp only [List.getElem?_toArray, List.getElem?_cons_zero, List.getElem?_cons_succ, Option.some.injEq] at ho
      subst ho
      have E35 := hV.get 2 rfl (hdep 2 (by decide))
      refine stp_move rfl (by first | exact .inl rfl | exact .inr rfl) ?_
      rw [E35]
      exact hK _ _ ⟨hs, hV.put (by show List.Nodup [0, 1, 2, 3, 4, 5, 6, 9, 10]; decide) (by show List.Nodup [33, 34, 35, 32, 36, 37, 38, 9, 10]; decide) 3 rfl (by decide) (by rw [hs]; decide), g, hA.val0 (by decide) (by decide)⟩
    | 4, ho =>
      simp only [List.getElem?_toArray, List.getElem?_cons_zero, List.getElem?_cons_succ, Option.some.injEq] at ho
      subst ho
      have E32 := hV.get 3 rfl (hdep 3 (by decide))
      refine stp1 (v := i16_3.val) (w' := W) (.tmp 32) _ rfl E32 (fun ρ hc hρ => by clear hV hK hA; first | (go_simp; done) | (go_simp; rfl)) ?_
      exact hK _ _ ⟨hs, hV.put (by show List.Nodup [0, 1, 2, 3, 4, 5, 6, 9, 10]; decide) (by show List.Nodup [33, 34, 35, 32, 36, 37, 38, 9, 10]; decide) 4 rfl (by decide) (by rw [hs]; decide), g, hA.val0 (by decide) (by decide)⟩
    | 5, ho =>
      simp only [List.getElem?_toArray, List.getElem?_cons_zero, List.getElem?_cons_succ, Option.some.injEq] at ho
      subst ho
      have E32 := hV.get 3 rfl (hdep 3 (by decide))
      refine stp1 (v := .int .u8 0) (w' := W) (.tmp 32) _ rfl E32 (fun ρ hc hρ => by clear hV hK hA; first | (go_simp; done) | (go_simp; rfl)) ?_
      exact hK _ _ ⟨hs, hV.put (by show List.Nodup [0, 1, 2, 3, 4, 5, 6, 9, 10]; decide) (by show List.Nodup [33, 34, 35, 32, 36, 37, 38, 9, 10]; decide) 5 rfl (by decide) (by rw [hs]; decide), g, hA.val0 (by decide) (by decide)⟩
    | 6, ho =>
      simp only [List.getElem?_toArray, List.getElem?_cons_zero, List.getElem?_cons_succ, Option.some.injEq] at ho
      subst ho
      have E32 := hV.get 3 rfl (hdep 3 (by decide))
      refine stp1 (v := .int .i64 0) (w' := W) (.tmp 32) _ rfl E32 (fun ρ hc hρ => by clear hV hK hA; first | (go_simp; done) | (go_simp; rfl)) ?_
      exact hK _ _ ⟨hs, hV.put (by show List.Nodup [0, 1, 2, 3, 4, 5, 6, 9, 10]; decide) (by show List.Nodup [33, 34, 35, 32, 36, 37, 38, 9, 10]; decide) 6 rfl (by decide) (by rw [hs]; decide), g, hA.val0 (by decide) (by decide)⟩
    | 7, ho =>
      simp only [List.getElem?_toArray, List.getElem?_cons_zero, List.getElem?_cons_succ, Option.some.injEq] at ho
      subst ho
      refine stp (v := .pointer (some ⟨W.heap.size, 0, none⟩)) (w' := W.alloc (.cells #[.int .u64 0, .int .u64 0, .int .i64 0, .int .i64 0, .bool false, .int .u8 0, .int .u64 0, .bool false, .int .u64 0, .bool false, .bool false, .int .u32 0] 34 (0, 0))) rfl (by clear hV hK hA; first | (go_simp; done) | (go_simp; rfl)) ?_
      exact hK _ _ ⟨hs, hV.other (by show ¬ 7 ∈ [0, 1, 2, 3, 4, 5, 6, 9, 10]; decide) (by show ¬ 8 ∈ [33, 34, 35, 32, 36, 37, 38, 9, 10]; decide) (by decide), _, hA.alloc (by decide) hL (by rw [hV.size, hs]; decide)⟩
    | 8, ho =>
      simp only [List.getElem?_toArray, List.getElem?_cons_zero, List.getElem?_cons_succ, Option.some.injEq] at ho
      subst ho
      have E36 := hV.get 4 rfl (hdep 4 (by decide))
      have hia := hdep 7 (by decide)
      refine ⟨fun _ => wp_store_row 34 _ _ rfl g i16_3.cells (hA.row hia).1 E36 34 _ (by have h3 := (hA.row hia).2.2; rw [hL] at h3; exact h3) (by kernel_rfl) (by rfl) (by simp [InV.cells, Value.oneCell']) ?_, fun h2 => absurd h2 (by simp [Region.wanted])⟩
      exact hK _ _ ⟨hs, hV.skip (by show ¬ 8 ∈ [0, 1, 2, 3, 4, 5, 6, 9, 10]; decide), g, hA.store (by decide) hia hL⟩
    | 9, ho =>
      simp only [List.getElem?_toArray, List.getElem?_cons_zero, List.getElem?_cons_succ, Option.some.injEq] at ho
      subst ho
      have E37 := hV.get 5 rfl (hdep 5 (by decide))
      refine stp_move rfl (by first | exact .inl rfl | exact .inr rfl) ?_
      rw [E37]
      exact hK _ _ ⟨hs, hV.put (by show List.Nodup [0, 1, 2, 3, 4, 5, 6, 9, 10]; decide) (by show List.Nodup [33, 34, 35, 32, 36, 37, 38, 9, 10]; decide) 7 rfl (by decide) (by rw [hs]; decide), g, hA.val0 (by decide) (by decide)⟩
    | 10, ho =>
      simp only [List.getElem?_toArray, List.getElem?_cons_zero, List.getElem?_cons_succ, Option.some.injEq] at ho
      subst ho
      have E38 := hV.get 6 rfl (hdep 6 (by decide))
      refine stp_move rfl (by first | exact .inl rfl | exact .inr rfl) ?_
      rw [E38]
      exact hK _ _ ⟨hs, hV.put (by show List.Nodup [0, 1, 2, 3, 4, 5, 6, 9, 10]; decide) (by show List.Nodup [33, 34, 35, 32, 36, 37, 38, 9, 10]; decide) 8 rfl (by decide) (by rw [hs]; decide), g, hA.val0 (by decide) (by decide)⟩
    | i' + 11, ho => simp at ho
  · intro L a W hI hall
    obtain ⟨hs', hV, g, hA⟩ := hI
    have ha : a = setA a0 [(33, a.eval (.tmp 33)), (34, a.eval (.tmp 34)), (35, a.eval (.tmp 35)), (32, a.eval (.tmp 32)), (36, a.eval (.tmp 36)), (37, a.eval (.tmp 37)), (38, a.eval (.tmp 38)), (9, a.eval (.tmp 9)), (10, a.eval (.tmp 10)), (8, a.eval (.tmp 8))] := hV.act (fun k hk => by rw [hs]; simp at hk; omega)
    rw [hV.get 0 rfl (hall 0 (by decide))] at ha
    rw [hV.get 1 rfl (hall 1 (by decide))] at ha
    rw [hV.get 2 rfl (hall 2 (by decide))] at ha
    rw [hV.get 3 rfl (hall 3 (by decide))] at ha
    rw [hV.get 4 rfl (hall 4 (by decide))] at ha
    rw [hV.get 5 rfl (hall 5 (by decide))] at ha
    rw [hV.get 6 rfl (hall 6 (by decide))] at ha
    rw [hV.get 7 rfl (hall 9 (by decide))] at ha
    rw [hV.get 8 rfl (hall 10 (by decide))] at ha
    obtain ⟨h1, h2, h3⟩ := hA.row (hall 7 (by decide))
    rw [h1] at ha
    rw [hall 8 (by decide)] at h3
    rw [ha]
    exact hQ W g hA.below h2 h3
theorem do16_3 (w : World) : Calls Try.prog 23 #[i16_3.val, .int .u8 5, .int .u64 8, .int .u64 0, conf16.val] w fun e w' => e = .returned (encDo (i16_4, 2, 0)) ∧ Below w.heap.size w w' := by
  have h := do_calls i16_3 5 8 0 conf16 w
  rw [show doI i16_3 5 8 0 conf16 = (i16_4, 2, 0) from d16_3e] at h
  exact h
set_option maxHeartbeats 4000000 in
set_option maxRecDepth 100000 in
theorem lives_reg5 (g0 : Nat) {Q : Exit → Act → World → Prop} (a0 : Act) (W0 : World) (hs : a0.tmps.size = 105) (hdf : a0.defers = []) (f8 : a0.eval (.tmp 8) = .pointer (some ⟨g0, 0, none⟩)) (h0 : W0.heap[g0]? = some (.cells i16_3.cells 34 (0, 0))) (hQ : ∀ W g, Below W0.heap.size W0 W → W0.heap.size ≤ g → W.heap[g]? = some (.cells i16_4.cells 34 (0, 0)) → Q .normal (setA a0 [(40, i16_3.val), (41, conf16.val), (42, (encDo (i16_4, 2, 0))), (39, (encDo (i16_4, 2, 0))), (43, i16_4.val), (44, .int .u8 2), (45, .int .i64 0), (12, .int .u8 2), (13, .int .i64 0), (11, .pointer (some ⟨g, 0, none⟩))]) W) : (Code.region 5 #[{ dst := some 40, op := Op.load 34 (Operand.tmp 8), type := 34, pos := "law.go:19", after := #[], guard := none }, { dst := some 41, op := Op.call { callee := Callee.value (Operand.func 72), args := #[], argTypes := #[] }, type := 41, pos := "law.go:19", after := #[], guard := none }, { dst := some 42, op := Op.call { callee := Callee.value (Operand.func 23), args := #[Operand.tmp 40, Operand.const (Value.int IntKind.u8 5), Operand.const (Value.int IntKind.u64 8), Operand.const (Value.int IntKind.u64 0), Operand.tmp 41], argTypes := #[34, 5, 31, 31, 41] }, type := 48, pos := "law.go:19", after := #[{ on := 0, ground := Ground.data }, { on := 1, ground := Ground.data }, { on := 1, ground := Ground.chain }], guard := none }, { dst := some 39, op := Op.move (Operand.tmp 42), type := 48, pos := "law.go:19", after := #[{ on := 2, ground := Ground.data }], guard := none }, { dst := some 43, op := Op.extract (Operand.tmp 39) 0, type := 34, pos := "law.go:19", after := #[{ on := 3, ground := Ground.data }], guard := none }, { dst := some 44, op := Op.extract (Operand.tmp 39) 1, type := 5, pos := "law.go:19", after := #[{ on := 3, ground := Ground.data }, { on := 8, ground := Ground.gcOnly Departure.lateStores }], guard := none }, { dst := some 45, op := Op.extract (Operand.tmp 39) 2, type := 26, pos := "law.go:19", after := #[{ on := 3, ground := Ground.data }, { on := 9, ground := Ground.gcOnly Departure.lateStores }], guard := none }, { dst := some 11, op := Op.alloc 34, type := 0, pos := "law.go:19", after := #[], guard := none }, { dst := none, op := Op.store 34 (Operand.tmp 11) (Operand.tmp 43), type := 0, pos := "law.go:19", after := #[{ on := 7, ground := Ground.data }, { on := 4, ground := Ground.data }, { on := 2, ground := Ground.chain }, { on := 0, ground := Ground.phase }, { on := 1, ground := Ground.phase }, { on := 2, ground := Ground.phase }, { on := 3, ground := Ground.phase }, { on := 4, ground := Ground.phase }, { on := 5, ground := Ground.textOnly Departure.lateStores }, { on := 6, ground := Ground.textOnly Departure.lateStores }, { on := 7, ground := Ground.phase }], guard := none }, { dst := some 12, op := Op.assign (Operand.tmp 44), type := 5, pos := "law.go:19", after := #[{ on := 5, ground := Ground.data }, { on := 8, ground := Ground.chain }, { on := 0, ground := Ground.phase }, { on := 1, ground := Ground.phase }, { on := 2, ground := Ground.phase }, { on := 3, ground := Ground.phase }, { on := 4, ground := Ground.phase }, { on := 5, ground := Ground.phase }, { on := 6, ground := Ground.textOnly Departure.lateStores }, { on := 7, ground := Ground.phase }, { on := 8, ground := Ground.phase }], guard := none }, { dst := some 13, op := Op.assign (Operand.tmp 45), type := 26, pos := "law.go:19", after := #[{ on := 6, ground := Ground.data }, { on := 9, ground := Ground.chain }, { on := 0, ground := Ground.phase }, { on := 1, ground := Ground.phase }, { on := 2, ground := Ground.phase }, { on := 3, ground := Ground.phase }, { on := 4, ground := Ground.phase }, { on := 5, ground := Ground.phase }, { on := 6, ground := Ground.phase }, { on := 7, ground := Ground.phase }, { on := 8, ground := Ground.phase }, { on := 9, ground := Ground.phase }], guard := none }] true).wp Try.prog Q a0 W0 := by
  refine wp_region_inv_at (by kernel_rfl) (fun a0 L a W => a0.tmps.size = 105 ∧ VInv [(0, 40, i16_3.val), (1, 41, conf16.val), (2, 42, (encDo (i16_4, 2, 0))), (3, 39, (encDo (i16_4, 2, 0))), (4, 43, i16_4.val), (5, 44, .int .u8 2), (6, 45, .int .i64 0), (9, 12, .int .u8 2), (10, 13, .int .i64 0)] [40, 41, 42, 39, 43, 44, 45, 12, 13, 11] a0 L a ∧ ∃ g, AInv W0 7 8 11 #[.int .u64 0, .int .u64 0, .int .i64 0, .int .i64 0, .bool false, .int .u8 0, .int .u64 0, .bool false, .int .u64 0, .bool false, .bool false, .int .u32 0] i16_4.cells 34 L a W g) (by kernel_rfl) ⟨hs, VInv.start _ _ _, 0, AInv.start _ (below_drew (Below.refl _ _))⟩ ?_ ?_
  · intro L i' o a W K hI ho hL hdep0 hK
    obtain ⟨hs, hV, g, hA⟩ := hI
    have e8 := (hV.keep 8 (by decide)).trans f8
    have hdep := deps o hdep0
    clear hdep0
    match i', ho with
    | 0, ho =>
      simp only [List.getElem?_toArray, List.getElem?_cons_zero, List.getElem?_cons_succ, Option.some.injEq] at ho
      subst ho
      have E8 := e8
      refine stp_load rfl rfl E8 (blk_call hA.below h0) Try.underlying34 rfl (by kernel_rfl) ?_
      exact hK _ _ ⟨hs, hV.put (by show List.Nodup [0, 1, 2, 3, 4, 5, 6, 9, 10]; decide) (by show List.Nodup [40, 41, 42, 39, 43, 44, 45, 12, 13]; decide) 0 rfl (by decide) (by rw [hs]; decide), g, hA.val0 (by decide) (by decide)⟩
    | 1, ho =>
      simp only [List.getElem?_toArray, List.getElem?_cons_zero, List.getElem?_cons_succ, Option.some.injEq] at ho
      subst ho
      refine stp_call rfl Try.func72 (by kernel_rfl) rfl rfl (args := #[]) (by simp only [List.map_toArray, List.map_cons, List.map_nil] <;> rfl) ?_
      refine (conf_calls W).mono ?_
      rintro e w2 ⟨rfl, hb2⟩
      exact ⟨_, rfl, hK _ _ ⟨hs, hV.put (by show List.Nodup [0, 1, 2, 3, 4, 5, 6, 9, 10]; decide) (by show List.Nodup [40, 41, 42, 39, 43, 44, 45, 12, 13]; decide) 1 rfl (by decide) (by rw [hs]; decide), g, hA.val (by decide) (by decide) hb2⟩⟩
    | 2, ho =>
      simp only [List.getElem?_toArray, List.getElem?_cons_zero, List.getElem?_cons_succ, Option.some.injEq] at ho
      subst ho
      have E40 := hV.get 0 rfl (hdep 0 (by decide))
      have E41 := hV.get 1 rfl (hdep 1 (by decide))
      refine stp_call rfl Try.func23 (by kernel_rfl) rfl rfl (args := #[i16_3.val, .int .u8 5, .int .u64 8, .int .u64 0, conf16.val]) (by simp only [List.map_toArray, List.map_cons, List.map_nil, E40, E41] <;> rfl) ?_
      refine (do16_3 W).mono ?_
      rintro e w2 ⟨rfl, hb2⟩
      exact ⟨_, rfl, hK _ _ ⟨hs, hV.put (by show List.Nodup [0, 1, 2, 3, 4, 5, 6, 9, 10]; decide) (by show List.Nodup [40, 41, 42, 39, 43, 44, 45, 12, 13]; decide) 2 rfl (by decide) (by rw [hs]; decide), g, hA.val (by decide) (by decide) hb2⟩⟩
    | 3, ho =>
      simp only [List.getElem?_toArray, List.getElem?_cons_zero, List.getElem?_cons_succ, Option.some.injEq] at ho
      subst ho
      have E42 := hV.get 2 rfl (hdep 2 (by decide))
      refine stp_move rfl (by first | exact .inl rfl | exact .inr rfl) ?_
      rw [E42]
      exact hK _ _ ⟨hs, hV.put (by show List.Nodup [0, 1, 2, 3, 4, 5, 6, 9, 10]; decide) (by show List.Nodup [40, 41, 42, 39, 43, 44, 45, 12, 13]; decide) 3 rfl (by decide) (by rw [hs]; decide), g, hA.val0 (by decide) (by decide)⟩
    | 4, ho =>
      simp only [List.getElem?_toArray, List.getElem?_cons_zero, List.getElem?_cons_succ, Option.some.injEq] at ho
      subst ho
      have E39 := hV.get 3 rfl (hdep 3 (by decide))
      refine stp1 (v := i16_4.val) (w' := W) (.tmp 39) _ rfl E39 (fun ρ hc hρ => by clear hV hK hA; first | (go_simp; done) | (go_simp; rfl)) ?_
      exact hK _ _ ⟨hs, hV.put (by show List.Nodup [0, 1, 2, 3, 4, 5, 6, 9, 10]; decide) (by show List.Nodup [40, 41, 42, 39, 43, 44, 45, 12, 13]; decide) 4 rfl (by decide) (by rw [hs]; decide), g, hA.val0 (by decide) (by decide)⟩
    | 5, ho =>
      simp only [List.getElem?_toArray, List.getElem?_cons_zero, List.getElem?_cons_succ, Option.some.injEq] at ho
      subst ho
      have E39 := hV.get 3 rfl (hdep 3 (by decide))
      refine stp1 (v := .int .u8 2) (w' := W) (.tmp 39) _ rfl E39 (fun ρ hc hρ => by clear hV hK hA; first | (go_simp; done) | (go_simp; rfl)) ?_
      exact hK _ _ ⟨hs, hV.put (by show List.Nodup [0, 1, 2, 3, 4, 5, 6, 9, 10]; decide) (by show List.Nodup [40, 41, 42, 39, 43, 44, 45, 12, 13]; decide) 5 rfl (by decide) (by rw [hs]; decide), g, hA.val0 (by decide) (by decide)⟩
    | 6, ho =>
      simp only [List.getElem?_toArray, List.getElem?_cons_zero, List.getElem?_cons_succ, Option.some.injEq] at ho
      subst ho
      have E39 := hV.get 3 rfl (hdep 3 (by decide))
      refine stp1 (v := .int .i64 0) (w' := W) (.tmp 39) _ rfl E39 (fun ρ hc hρ => by clear hV hK hA; first | (go_simp; done) | (go_simp; rfl)) ?_
      exact hK _ _ ⟨hs, hV.put (by show List.Nodup [0, 1, 2, 3, 4, 5, 6, 9, 10]; decide) (by show List.Nodup [40, 41, 42, 39, 43, 44, 45, 12, 13]; decide) 6 rfl (by decide) (by rw [hs]; decide), g, hA.val0 (by decide) (by decide)⟩
    | 7, ho =>
      simp only [List.getElem?_toArray, List.getElem?_cons_zero, List.getElem?_cons_succ, Option.some.injEq] at ho
      subst ho
      refine stp (v := .pointer (some ⟨W.heap.size, 0, none⟩)) (w' := W.alloc (.cells #[.int .u64 0, .int .u64 0, .int .i64 0, .int .i64 0, .bool false, .int .u8 0, .int .u64 0, .bool false, .int .u64 0, .bool false, .bool false, .int .u32 0] 34 (0, 0))) rfl (by clear hV hK hA; first | (go_simp; done) | (go_simp; rfl)) ?_
      exact hK _ _ ⟨hs, hV.other (by show ¬ 7 ∈ [0, 1, 2, 3, 4, 5, 6, 9, 10]; decide) (by show ¬ 11 ∈ [40, 41, 42, 39, 43, 44, 45, 12, 13]; decide) (by decide), _, hA.alloc (by decide) hL (by rw [hV.size, hs]; decide)⟩
    | 8, ho =>
      simp only [List.getElem?_toArray, List.getElem?_cons_zero, List.getElem?_cons_succ, Option.some.injEq] at ho
      subst ho
      have E43 := hV.get 4 rfl (hdep 4 (by decide))
      have hia := hdep 7 (by decide)
      refine ⟨fun _ => wp_store_row 34 _ _ rfl g i16_4.cells (hA.row hia).1 E43 34 _ (by have h3 := (hA.row hia).2.2; rw [hL] at h3; exact h3) (by kernel_rfl) (by rfl) (by simp [InV.cells, Value.oneCell']) ?_, fun h2 => absurd h2 (by simp [Region.wanted])⟩
      exact hK _ _ ⟨hs, hV.skip (by show ¬ 8 ∈ [0, 1, 2, 3, 4, 5, 6, 9, 10]; decide), g, hA.store (by decide) hia hL⟩
    | 9, ho =>
      simp only [List.getElem?_toArray, List.getElem?_cons_zero, List.getElem?_cons_succ, Option.some.injEq] at ho
      subst ho
      have E44 := hV.get 5 rfl (hdep 5 (by decide))
      refine stp_move rfl (by first | exact .inl rfl | exact .inr rfl) ?_
      rw [E44]
      exact hK _ _ ⟨hs, hV.put (by show List.Nodup [0, 1, 2, 3, 4, 5, 6, 9, 10]; decide) (by show List.Nodup [40, 41, 42, 39, 43, 44, 45, 12, 13]; decide) 7 rfl (by decide) (by rw [hs]; decide), g, hA.val0 (by decide) (by decide)⟩
    | 10, ho =>
      simp only [List.getElem?_toArray, List.getElem?_cons_zero, List.getElem?_cons_succ, Option.some.injEq] at ho
      subst ho
      have E45 := hV.get 6 rfl (hdep 6 (by decide))
      refine stp_move rfl (by first | exact .inl rfl | exact .inr rfl) ?_
      rw [E45]
      exact hK _ _ ⟨hs, hV.put (by show List.Nodup [0, 1, 2, 3, 4, 5, 6, 9, 10]; decide) (by show List.Nodup [40, 41, 42, 39, 43, 44, 45, 12, 13]; decide) 8 rfl (by decide) (by rw [hs]; decide), g, hA.val0 (by decide) (by decide)⟩
    | i' + 11, ho => simp at ho
  · intro L a W hI hall
    obtain ⟨hs', hV, g, hA⟩ := hI
    have ha : a = setA a0 [(40, a.eval (.tmp 40)), (41, a.eval (.tmp 41)), (42, a.eval (.tmp 42)), (39, a.eval (.tmp 39)), (43, a.eval (.tmp 43)), (44, a.eval (.tmp 44)), (45, a.eval (.tmp 45)), (12, a.eval (.tmp 12)), (13, a.eval (.tmp 13)), (11, a.eval (.tmp 11))] := hV.act (fun k hk => by rw [hs]; simp at hk; omega)
    rw [hV.get 0 rfl (hall 0 (by decide))] at ha
    rw [hV.get 1 rfl (hall 1 (by decide))] at ha
    rw [hV.get 2 rfl (hall 2 (by decide))] at ha
    rw [hV.get 3 rfl (hall 3 (by decide))] at ha
    rw [hV.get 4 rfl (hall 4 (by decide))] at ha
    rw [hV.get 5 rfl (hall 5 (by decide))] at ha
    rw [hV.get 6 rfl (hall 6 (by decide))] at ha
    rw [hV.get 7 rfl (hall 9 (by decide))] at ha
    rw [hV.get 8 rfl (hall 10 (by decide))] at ha
    obtain ⟨h1, h2, h3⟩ := hA.row (hall 7 (by decide))
    rw [h1] at ha
    rw [hall 8 (by decide)] at h3
    rw [ha]
    exact hQ W g hA.below h2 h3
theorem do16_4 (w : World) : Calls Try.prog 23 #[i16_4.val, .int .u8 1, .int .u64 9, .int .u64 0, conf16.val] w fun e w' => e = .returned (encDo (i16_4, 0, 12)) ∧ Below w.heap.size w w' := by
  have h := do_calls i16_4 1 9 0 conf16 w
  rw [show doI i16_4 1 9 0 conf16 = (i16_4, 0, 12) from d16_4e] at h
  exact h
set_option maxHeartbeats 4000000 in
set_option maxRecDepth 100000 in
theorem lives_reg6 (g0 : Nat) {Q : Exit → Act → World → Prop} (a0 : Act) (W0 : World) (hs : a0.tmps.size = 105) (hdf : a0.defers = []) (f11 : a0.eval (.tmp 11) = .pointer (some ⟨g0, 0, none⟩)) (h0 : W0.heap[g0]? = some (.cells i16_4.cells 34 (0, 0))) (hQ : ∀ W g, Below W0.heap.size W0 W → W0.heap.size ≤ g → W.heap[g]? = some (.cells i16_4.cells 34 (0, 0)) → Q .normal (setA a0 [(47, i16_4.val), (48, conf16.val), (49, (encDo (i16_4, 0, 12))), (46, (encDo (i16_4, 0, 12))), (50, i16_4.val), (51, .int .u8 0), (52, .int .i64 12), (15, .int .u8 0), (16, .int .i64 12), (14, .pointer (some ⟨g, 0, none⟩))]) W) : (Code.region 6 #[{ dst := some 47, op := Op.load 34 (Operand.tmp 11), type := 34, pos := "law.go:20", after := #[], guard := none }, { dst := some 48, op := Op.call { callee := Callee.value (Operand.func 72), args := #[], argTypes := #[] }, type := 41, pos := "law.go:20", after := #[], guard := none }, { dst := some 49, op := Op.call { callee := Callee.value (Operand.func 23), args := #[Operand.tmp 47, Operand.const (Value.int IntKind.u8 1), Operand.const (Value.int IntKind.u64 9), Operand.const (Value.int IntKind.u64 0), Operand.tmp 48], argTypes := #[34, 5, 31, 31, 41] }, type := 48, pos := "law.go:20", after := #[{ on := 0, ground := Ground.data }, { on := 1, ground := Ground.data }, { on := 1, ground := Ground.chain }], guard := none }, { dst := some 46, op := Op.move (Operand.tmp 49), type := 48, pos := "law.go:20", after := #[{ on := 2, ground := Ground.data }], guard := none }, { dst := some 50, op := Op.extract (Operand.tmp 46) 0, type := 34, pos := "law.go:20", after := #[{ on := 3, ground := Ground.data }], guard := none }, { dst := some 51, op := Op.extract (Operand.tmp 46) 1, type := 5, pos := "law.go:20", after := #[{ on := 3, ground := Ground.data }, { on := 8, ground := Ground.gcOnly Departure.lateStores }], guard := none }, { dst := some 52, op := Op.extract (Operand.tmp 46) 2, type := 26, pos := "law.go:20", after := #[{ on := 3, ground := Ground.data }, { on := 9, ground := Ground.gcOnly Departure.lateStores }], guard := none }, { dst := some 14, op := Op.alloc 34, type := 0, pos := "law.go:20", after := #[], guard := none }, { dst := none, op := Op.store 34 (Operand.tmp 14) (Operand.tmp 50), type := 0, pos := "law.go:20", after := #[{ on := 7, ground := Ground.data }, { on := 4, ground := Ground.data }, { on := 2, ground := Ground.chain }, { on := 0, ground := Ground.phase }, { on := 1, ground := Ground.phase }, { on := 2, ground := Ground.phase }, { on := 3, ground := Ground.phase }, { on := 4, ground := Ground.phase }, { on := 5, ground := Ground.textOnly Departure.lateStores }, { on := 6, ground := Ground.textOnly Departure.lateStores }, { on := 7, ground := Ground.phase }], guard := none }, { dst := some 15, op := Op.assign (Operand.tmp 51), type := 5, pos := "law.go:20", after := #[{ on := 5, ground := Ground.data }, { on := 8, ground := Ground.chain }, { on := 0, ground := Ground.phase }, { on := 1, ground := Ground.phase }, { on := 2, ground := Ground.phase }, { on := 3, ground := Ground.phase }, { on := 4, ground := Ground.phase }, { on := 5, ground := Ground.phase }, { on := 6, ground := Ground.textOnly Departure.lateStores }, { on := 7, ground := Ground.phase }, { on := 8, ground := Ground.phase }], guard := none }, { dst := some 16, op := Op.assign (Operand.tmp 52), type := 26, pos := "law.go:20", after := #[{ on := 6, ground := Ground.data }, { on := 9, ground := Ground.chain }, { on := 0, ground := Ground.phase }, { on := 1, ground := Ground.phase }, { on := 2, ground := Ground.phase }, { on := 3, ground := Ground.phase }, { on := 4, ground := Ground.phase }, { on := 5, ground := Ground.phase }, { on := 6, ground := Ground.phase }, { on := 7, ground := Ground.phase }, { on := 8, ground := Ground.phase }, { on := 9, ground := Ground.phase }], guard := none }] true).wp Try.prog Q a0 W0 := by
  refine wp_region_inv_at (by kernel_rfl) (fun a0 L a W => a0.tmps.size = 105 ∧ VInv [(0, 47, i16_4.val), (1, 48, conf16.val), (2, 49, (encDo (i16_4, 0, 12))), (3, 46, (encDo (i16_4, 0, 12))), (4, 50, i16_4.val), (5, 51, .int .u8 0), (6, 52, .int .i64 12), (9, 15, .int .u8 0), (10, 16, .int .i64 12)] [47, 48, 49, 46, 50, 51, 52, 15, 16, 14] a0 L a ∧ ∃ g, AInv W0 7 8 14 #[.int .u64 0, .int .u64 0, .int .i64 0, .int .i64 0, .bool false, .int .u8 0, .int .u64 0, .bool false, .int .u64 0, .bool false, .bool false, .int .u32 0] i16_4.cells 34 L a W g) (by kernel_rfl) ⟨hs, VInv.start _ _ _, 0, AInv.start _ (below_drew (Below.refl _ _))⟩ ?_ ?_
  · intro L i' o a W K hI ho hL hdep0 hK
    obtain ⟨hs, hV, g, hA⟩ := hI
    have e11 := (hV.keep 11 (by decide)).trans f11
    have hdep := deps o hdep0
    clear hdep0
    match i', ho with
    | 0, ho =>
      simp only [List.getElem?_toArray, List.getElem?_cons_zero, List.getElem?_cons_succ, Option.some.injEq] at ho
      subst ho
      have E11 := e11
      refine stp_load rfl rfl E11 (blk_call hA.below h0) Try.underlying34 rfl (by kernel_rfl) ?_
      exact hK _ _ ⟨hs, hV.put (by show List.Nodup [0, 1, 2, 3, 4, 5, 6, 9, 10]; decide) (by show List.Nodup [47, 48, 49, 46, 50, 51, 52, 15, 16]; decide) 0 rfl (by decide) (by rw [hs]; decide), g, hA.val0 (by decide) (by decide)⟩
    | 1, ho =>
      simp only [List.getElem?_toArray, List.getElem?_cons_zero, List.getElem?_cons_succ, Option.some.injEq] at ho
      subst ho
      refine stp_call rfl Try.func72 (by kernel_rfl) rfl rfl (args := #[]) (by simp only [List.map_toArray, List.map_cons, List.map_nil] <;> rfl) ?_
      refine (conf_calls W).mono ?_
      rintro e w2 ⟨rfl, hb2⟩
      exact ⟨_, rfl, hK _ _ ⟨hs, hV.put (by show List.Nodup [0, 1, 2, 3, 4, 5, 6, 9, 10]; decide) (by show List.Nodup [47, 48, 49, 46, 50, 51, 52, 15, 16]; decide) 1 rfl (by decide) (by rw [hs]; decide), g, hA.val (by decide) (by decide) hb2⟩⟩
    | 2, ho =>
      simp only [List.getElem?_toArray, List.getElem?_cons_zero, List.getElem?_cons_succ, Option.some.injEq] at ho
      subst ho
      have E47 := hV.get 0 rfl (hdep 0 (by decide))
      have E48 := hV.get 1 rfl (hdep 1 (by decide))
      refine stp_call rfl Try.func23 (by kernel_rfl) rfl rfl (args := #[i16_4.val, .int .u8 1, .int .u64 9, .int .u64 0, conf16.val]) (by simp only [List.map_toArray, List.map_cons, List.map_nil, E47, E48] <;> rfl) ?_
      refine (do16_4 W).mono ?_
      rintro e w2 ⟨rfl, hb2⟩
      exact ⟨_, rfl, hK _ _ ⟨hs, hV.put (by show List.Nodup [0, 1, 2, 3, 4, 5, 6, 9, 10]; decide) (by show List.Nodup [47, 48, 49, 46, 50, 51, 52, 15, 16]; decide) 2 rfl (by decide) (by rw [hs]; decide), g, hA.val (by decide) (by decide) hb2⟩⟩
    | 3, ho =>
      simp only [List.getElem?_toArray, List.getElem?_cons_zero, List.getElem?_cons_succ, Option.some.injEq] at ho
      subst ho
      have E49 := hV.get 2 rfl (hdep 2 (by decide))
      refine stp_move rfl (by first | exact .inl rfl | exact .inr rfl) ?_
      rw [E49]
      exact hK _ _ ⟨hs, hV.put (by show List.Nodup [0, 1, 2, 3, 4, 5, 6, 9, 10]; decide) (by show List.Nodup [47, 48, 49, 46, 50, 51, 52, 15, 16]; decide) 3 rfl (by decide) (by rw [hs]; decide), g, hA.val0 (by decide) (by decide)⟩
    | 4, ho =>
      simp only [List.getElem?_toArray, List.getElem?_cons_zero, List.getElem?_cons_succ, Option.some.injEq] at ho
      subst ho
      have E46 := hV.get 3 rfl (hdep 3 (by decide))
      refine stp1 (v := i16_4.val) (w' := W) (.tmp 46) _ rfl E46 (fun ρ hc hρ => by clear hV hK hA; first | (go_simp; done) | (go_simp; rfl)) ?_
      exact hK _ _ ⟨hs, hV.put (by show List.Nodup [0, 1, 2, 3, 4, 5, 6, 9, 10]; decide) (by show List.Nodup [47, 48, 49, 46, 50, 51, 52, 15, 16]; decide) 4 rfl (by decide) (by rw [hs]; decide), g, hA.val0 (by decide) (by decide)⟩
    | 5, ho =>
      simp only [List.getElem?_toArray, List.getElem?_cons_zero, List.getElem?_cons_succ, Option.some.injEq] at ho
      subst ho
      have E46 := hV.get 3 rfl (hdep 3 (by decide))
      refine stp1 (v := .int .u8 0) (w' := W) (.tmp 46) _ rfl E46 (fun ρ hc hρ => by clear hV hK hA; first | (go_simp; done) | (go_simp; rfl)) ?_
      exact hK _ _ ⟨hs, hV.put (by show List.Nodup [0, 1, 2, 3, 4, 5, 6, 9, 10]; decide) (by show List.Nodup [47, 48, 49, 46, 50, 51, 52, 15, 16]; decide) 5 rfl (by decide) (by rw [hs]; decide), g, hA.val0 (by decide) (by decide)⟩
    | 6, ho =>
      simp only [List.getElem?_toArray, List.getElem?_cons_zero, List.getElem?_cons_succ, Option.some.injEq] at ho
      subst ho
      have E46 := hV.get 3 rfl (hdep 3 (by decide))
      refine stp1 (v := .int .i64 12) (w' := W) (.tmp 46) _ rfl E46 (fun ρ hc hρ => by clear hV hK hA; first | (go_simp; done) | (go_simp; rfl)) ?_
      exact hK _ _ ⟨hs, hV.put (by show List.Nodup [0, 1, 2, 3, 4, 5, 6, 9, 10]; decide) (by show List.Nodup [47, 48, 49, 46, 50, 51, 52, 15, 16]; decide) 6 rfl (by decide) (by rw [hs]; decide), g, hA.val0 (by decide) (by decide)⟩
    | 7, ho =>
      simp only [List.getElem?_toArray, List.getElem?_cons_zero, List.getElem?_cons_succ, Option.some.injEq] at ho
      subst ho
      refine stp (v := .pointer (some ⟨W.heap.size, 0, none⟩)) (w' := W.alloc (.cells #[.int .u64 0, .int .u64 0, .int .i64 0, .int .i64 0, .bool false, .int .u8 0, .int .u64 0, .bool false, .int .u64 0, .bool false, .bool false, .int .u32 0] 34 (0, 0))) rfl (by clear hV hK hA; first | (go_simp; done) | (go_simp; rfl)) ?_
      exact hK _ _ ⟨hs, hV.other (by show ¬ 7 ∈ [0, 1, 2, 3, 4, 5, 6, 9, 10]; decide) (by show ¬ 14 ∈ [47, 48, 49, 46, 50, 51, 52, 15, 16]; decide) (by decide), _, hA.alloc (by decide) hL (by rw [hV.size, hs]; decide)⟩
    | 8, ho =>
      simp only [List.getElem?_toArray, List.getElem?_cons_zero, List.getElem?_cons_succ, Option.some.injEq] at ho
      subst ho
      have E50 := hV.get 4 rfl (hdep 4 (by decide))
      have hia := hdep 7 (by decide)
      refine ⟨fun _ => wp_store_row 34 _ _ rfl g i16_4.cells (hA.row hia).1 E50 34 _ (by have h3 := (hA.row hia).2.2; rw [hL] at h3; exact h3) (by kernel_rfl) (by rfl) (by simp [InV.cells, Value.oneCell']) ?_, fun h2 => absurd h2 (by simp [Region.wanted])⟩
      exact hK _ _ ⟨hs, hV.skip (by show ¬ 8 ∈ [0, 1, 2, 3, 4, 5, 6, 9, 10]; decide), g, hA.store (by decide) hia hL⟩
    | 9, ho =>
      simp only [List.getElem?_toArray, List.getElem?_cons_zero, List.getElem?_cons_succ, Option.some.injEq] at ho
      subst ho
      have E51 := hV.get 5 rfl (hdep 5 (by decide))
      refine stp_move rfl (by first | exact .inl rfl | exact .inr rfl) ?_
      rw [E51]
      exact hK _ _ ⟨hs, hV.put (by show List.Nodup [0, 1, 2, 3, 4, 5, 6, 9, 10]; decide) (by show List.Nodup [47, 48, 49, 46, 50, 51, 52, 15, 16]; decide) 7 rfl (by decide) (by rw [hs]; decide), g, hA.val0 (by decide) (by decide)⟩
    | 10, ho =>
      simp only [List.getElem?_toArray, List.getElem?_cons_zero, List.getElem?_cons_succ, Option.some.injEq] at ho
      subst ho
      have E52 := hV.get 6 rfl (hdep 6 (by decide))
      refine stp_move rfl (by first | exact .inl rfl | exact .inr rfl) ?_
      rw [E52]
      exact hK _ _ ⟨hs, hV.put (by show List.Nodup [0, 1, 2, 3, 4, 5, 6, 9, 10]; decide) (by show List.Nodup [47, 48, 49, 46, 50, 51, 52, 15, 16]; decide) 8 rfl (by decide) (by rw [hs]; decide), g, hA.val0 (by decide) (by decide)⟩
    | i' + 11, ho => simp at ho
  · intro L a W hI hall
    obtain ⟨hs', hV, g, hA⟩ := hI
    have ha : a = setA a0 [(47, a.eval (.tmp 47)), (48, a.eval (.tmp 48)), (49, a.eval (.tmp 49)), (46, a.eval (.tmp 46)), (50, a.eval (.tmp 50)), (51, a.eval (.tmp 51)), (52, a.eval (.tmp 52)), (15, a.eval (.tmp 15)), (16, a.eval (.tmp 16)), (14, a.eval (.tmp 14))] := hV.act (fun k hk => by rw [hs]; simp at hk; omega)
    rw [hV.get 0 rfl (hall 0 (by decide))] at ha
    rw [hV.get 1 rfl (hall 1 (by decide))] at ha
    rw [hV.get 2 rfl (hall 2 (by decide))] at ha
    rw [hV.get 3 rfl (hall 3 (by decide))] at ha
    rw [hV.get 4 rfl (hall 4 (by decide))] at ha
    rw [hV.get 5 rfl (hall 5 (by decide))] at ha
    rw [hV.get 6 rfl (hall 6 (by decide))] at ha
    rw [hV.get 7 rfl (hall 9 (by decide))] at ha
    rw [hV.get 8 rfl (hall 10 (by decide))] at ha
    obtain ⟨h1, h2, h3⟩ := hA.row (hall 7 (by decide))
    rw [h1] at ha
    rw [hall 8 (by decide)] at h3
    rw [ha]
    exact hQ W g hA.below h2 h3
set_option maxHeartbeats 4000000 in
set_option maxRecDepth 100000 in
theorem lives16_calls (w : World) : Calls Try.prog 22 #[] w fun e w' => e = .returned (.bool true) ∧ Below w.heap.size w w' := by
  have HBel : Below w.heap.size w w := Below.refl _ _
  go_enter Try.func22, Try.ntmps22
  go_upto_region 2 with (first | ((with_reducible refine gate_storeT 34 rfl ?_); refine wpList_store_row rfl 34 _ _ rfl _ _ rfl rfl 34 _ (heap_alloc_new _ _) (by kernel_rfl) rfl (by simp [Value.oneCell']) ?_; rw [setRow_alloc]))
  refine gen_w (fun W => W.heap[w.heap.size]? = some (.cells i16_0.cells 34 (0, 0)) ∧ Below w.heap.size w W) ⟨by simp only [InV.cells, i16_0]; exact heap_alloc_new _ _, below_alloc HBel _⟩ ?_
  rintro W1 ⟨h1, hB1⟩
  refine lives_reg2 w.heap.size _ _ rfl rfl rfl h1 ?_
  intro W2 g2 hb hlt h2
  have hB2 := below_step hB1 hb
  have k2_1 := blk_call hb h1
  clear hb hlt  hB1
  simp only [put_none_, setA, List.foldl_cons, List.foldl_nil, List.setIfInBounds_toArray, List.set_cons_succ, List.set_cons_zero]
  go_upto_region 3 with fail
  refine lives_reg3 g2 _ _ rfl rfl rfl h2 ?_
  intro W3 g5 hb hlt h5
  have hB3 := below_step hB2 hb
  have k3_1 := blk_call hb k2_1
  have k3_2 := blk_call hb h2
  clear hb hlt  hB2
  simp only [put_none_, setA, List.foldl_cons, List.foldl_nil, List.setIfInBounds_toArray, List.set_cons_succ, List.set_cons_zero]
  go_upto_region 4 with fail
  refine lives_reg4 g5 _ _ rfl rfl rfl h5 ?_
  intro W4 g8 hb hlt h8
  have hB4 := below_step hB3 hb
  have k4_1 := blk_call hb k3_1
  have k4_2 := blk_call hb k3_2
  have k4_5 := blk_call hb h5
  clear hb hlt  hB3
  simp only [put_none_, setA, List.foldl_cons, List.foldl_nil, List.setIfInBounds_toArray, List.set_cons_succ, List.set_cons_zero]
  go_upto_region 5 with fail
  refine lives_reg5 g8 _ _ rfl rfl rfl h8 ?_
  intro W5 g11 hb hlt h11
  have hB5 := below_step hB4 hb
  have k5_1 := blk_call hb k4_1
  have k5_2 := blk_call hb k4_2
  have k5_5 := blk_call hb k4_5
  have k5_8 := blk_call hb h8
  clear hb hlt  hB4
  simp only [put_none_, setA, List.foldl_cons, List.foldl_nil, List.setIfInBounds_toArray, List.set_cons_succ, List.set_cons_zero]
  go_upto_region 6 with fail
  refine lives_reg6 g11 _ _ rfl rfl rfl h11 ?_
  intro W6 g14 hb hlt h14
  have hB6 := below_step hB5 hb
  have k6_1 := blk_call hb k5_1
  have k6_2 := blk_call hb k5_2
  have k6_5 := blk_call hb k5_5
  have k6_8 := blk_call hb k5_8
  have k6_11 := blk_call hb h11
  clear hb hlt  hB5
  simp only [put_none_, setA, List.foldl_cons, List.foldl_nil, List.setIfInBounds_toArray, List.set_cons_succ, List.set_cons_zero]
  have c1_5 : W6.cell? ⟨w.heap.size, 5, none⟩ = some (.int .u8 3) := (blk_cell k6_1 5).trans rfl
  have c1_6 : W6.cell? ⟨w.heap.size, 6, none⟩ = some (.int .u64 0) := (blk_cell k6_1 6).trans rfl
  have c2_5 : W6.cell? ⟨g2, 5, none⟩ = some (.int .u8 4) := (blk_cell k6_2 5).trans rfl
  have c2_6 : W6.cell? ⟨g2, 6, none⟩ = some (.int .u64 7) := (blk_cell k6_2 6).trans rfl
  have c5_5 : W6.cell? ⟨g5, 5, none⟩ = some (.int .u8 4) := (blk_cell k6_5 5).trans rfl
  have c5_6 : W6.cell? ⟨g5, 6, none⟩ = some (.int .u64 7) := (blk_cell k6_5 6).trans rfl
  have c8_5 : W6.cell? ⟨g8, 5, none⟩ = some (.int .u8 5) := (blk_cell k6_8 5).trans rfl
  have c8_6 : W6.cell? ⟨g8, 6, none⟩ = some (.int .u64 10) := (blk_cell k6_8 6).trans rfl
  have c11_5 : W6.cell? ⟨g11, 5, none⟩ = some (.int .u8 6) := (blk_cell k6_11 5).trans rfl
  have c11_6 : W6.cell? ⟨g11, 6, none⟩ = some (.int .u64 0) := (blk_cell k6_11 6).trans rfl
  have c14_5 : W6.cell? ⟨g14, 5, none⟩ = some (.int .u8 6) := (blk_cell h14 5).trans rfl
  have c14_6 : W6.cell? ⟨g14, 6, none⟩ = some (.int .u64 0) := (blk_cell h14 6).trans rfl
  have HBX := Lib.hid hB6
  clear k6_1 k6_2 k6_5 k6_8 k6_11 h14 hB6
  go_wp2_with fail
  go_ret
  exact ⟨rfl, HBX.out⟩
end Go.Proofs.Ytaoflcmjmhfblaa.I
