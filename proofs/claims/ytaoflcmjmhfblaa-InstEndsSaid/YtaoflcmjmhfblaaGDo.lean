/- inst.Do. -/
import Derived.Test.YtaoflcmjmhfblaaGFind3
import Derived.Test.YtaoflcmjmhfblaaGBox
namespace Go.Proofs.Ytaoflcmjmhfblaa.I
open Go.RowKit Go.Proofs.YtaoflcmjmhfblaaW.PrintWords Go.Proofs.YtaoflcmjmhfblaaW.PrintLast Go.Proofs.YtaoflcmjmhfblaaW.PrintMore Go.Proofs.Ytaoflcmjmhfblaa.H Go.Shelf
set_option linter.unusedVariables false
set_option linter.unusedSimpArgs false
def doBad (i : InV) (what now at_ : Int) (c : CfV) : Bool := !instMay i || decide (what < 1) || decide (11 < what) || decide (1099511627776 < now) || decide (1099511627776 < at_) || !spansB c
def doMark (i : InV) (what at_ : Int) : InV := if what = 2 then { i with noticed := true, kill := at_ } else if what = 3 then { i with risk := true } else i
def doI (i : InV) (what now at_ : Int) (c : CfV) : InV × Int × Int :=
  if doBad i what now at_ c = true then (i, 0, 2) else
  if staysI i what now = true then (doMark i what at_, 0, 0) else
  if (findR i what c).2 = false then (i, 0, 12) else
  ({ doMark i what at_ with state := (findR i what c).1.1, due := if (findR i what c).1.2.2.1 = true then IntKind.u64.wrap (now + (findR i what c).1.2.1) else 0 }, (findR i what c).1.2.2.2, 0)
def encDo (r : InV × Int × Int) : Value := .tuple #[r.1.val, .int .u8 r.2.1, .int .i64 r.2.2]
theorem res3 {P : Program} {w : World} {fn : Func} {tmps : Array Value} {a t b c : Nat} {p : Addr} {v : Value} (hf : fn.results = #[.cell a t, .tmp b, .tmp c]) (ha : tmps.getD a undef = .pointer (some p)) (hl : (loadVar t p).run P w = .ok v w) : (results fn tmps).run P w = .ok (.tuple #[v, tmps.getD b undef, tmps.getD c undef]) w := by
  have ha' : tmps[a]?.getD undef = .pointer (some p) := by simpa using ha
  simp [results, hf, ha', asAddr, hl]
set_option maxHeartbeats 4000000 in
set_option maxRecDepth 100000 in
theorem do_reg17 (x : InV) (z : Array Value) (hz : z.size = x.cells.size) (s1 d1 : Int) (t1 : Bool) (a1 : Int) (g5 g10 g14 : Nat) (w : World) (h5 : g5 ≠ g10) (h14 : g14 ≠ g10) {Q : Exit → Act → World → Prop} (a0 : Act) (W0 : World) (hs : a0.tmps.size = 84) (hdf : a0.defers = []) (f5 : a0.eval (.tmp 5) = .pointer (some ⟨g5, 0, none⟩)) (f10 : a0.eval (.tmp 10) = .pointer (some ⟨g10, 0, none⟩)) (f14 : a0.eval (.tmp 14) = .pointer (some ⟨g14, 0, none⟩)) (J : Bool → World → Prop) (hJJ : J = fun b W => Below w.heap.size w W ∧ W.heap[g5]? = some (.cells x.cells 34 (0, 0)) ∧ w.heap.size ≤ g10 ∧ W.heap[g10]? = some (.cells (if b = true then x.cells else z) 34 (0, 0)) ∧ W.heap[g14]? = some (.cells #[.int .u8 s1, .int .u64 d1, .bool t1, .int .u8 a1] 133 (0, 0))) (hJ0 : J false W0.drew) (hQ : ∀ a W L, VInv [(0, 81, .agg x.cells), (1, 82, .pointer (some ⟨g14, 3, none⟩)), (2, 83, .int .u8 a1), (4, 11, .int .u8 a1), (5, 12, .int .i64 0)] [81, 82, 83, 11, 12] a0 L a → (∀ i, i < 6 → L i = true) → J true W → Q .normal a W) : (Code.region 17 #[{ dst := some 81, op := Op.load 34 (Operand.tmp 5), type := 34, pos := "inst.go:127", after := #[], guard := none }, { dst := some 82, op := Op.fieldAddr 133 (Operand.tmp 14) 3, type := 0, pos := "inst.go:127", after := #[{ on := 3, ground := Ground.gcOnly Departure.lateStores }], guard := none }, { dst := some 83, op := Op.load 5 (Operand.tmp 82), type := 5, pos := "inst.go:127", after := #[{ on := 1, ground := Ground.data }, { on := 3, ground := Ground.gcOnly Departure.lateStores }], guard := none }, { dst := none, op := Op.store 34 (Operand.tmp 10) (Operand.tmp 81), type := 0, pos := "inst.go:127", after := #[{ on := 0, ground := Ground.data }, { on := 0, ground := Ground.phase }, { on := 1, ground := Ground.textOnly Departure.lateStores }, { on := 2, ground := Ground.textOnly Departure.lateStores }], guard := none }, { dst := some 11, op := Op.assign (Operand.tmp 83), type := 5, pos := "inst.go:127", after := #[{ on := 2, ground := Ground.data }, { on := 3, ground := Ground.chain }, { on := 0, ground := Ground.phase }, { on := 1, ground := Ground.phase }, { on := 2, ground := Ground.phase }, { on := 3, ground := Ground.phase }], guard := none }, { dst := some 12, op := Op.assign (Operand.const (Value.int IntKind.i64 0)), type := 26, pos := "inst.go:127", after := #[{ on := 4, ground := Ground.chain }, { on := 0, ground := Ground.phase }, { on := 1, ground := Ground.phase }, { on := 2, ground := Ground.phase }, { on := 3, ground := Ground.phase }, { on := 4, ground := Ground.phase }], guard := none }] true).wp Try.prog Q a0 W0 := by
  refine wp_region_inv_at (by kernel_rfl) (fun a0 L a W => a0.tmps.size = 84 ∧ VInv [(0, 81, .agg x.cells), (1, 82, .pointer (some ⟨g14, 3, none⟩)), (2, 83, .int .u8 a1), (4, 11, .int .u8 a1), (5, 12, .int .i64 0)] [81, 82, 83, 11, 12] a0 L a ∧ J (L 3) W) (by kernel_rfl) ⟨hs, VInv.start _ _ _, hJ0⟩ ?_ ?_
  · intro L i' o a W K hI ho hL hdep0 hK
    obtain ⟨hs, hV, hJ⟩ := hI
    have e5 := (hV.keep 5 (by decide)).trans f5
    have e10 := (hV.keep 10 (by decide)).trans f10
    have e14 := (hV.keep 14 (by decide)).trans f14
    have hdep := deps o hdep0
    clear hdep0
    match i', ho with
    | 0, ho =>
      simp only [List.getElem?_toArray, List.getElem?_cons_zero, List.getElem?_cons_succ, Option.some.injEq] at ho
      subst ho
      have E5 := e5
      have hJ' := hJ
      rw [hJJ] at hJ'
      refine stp_load rfl rfl E5 hJ'.2.1 Try.underlying34 rfl (by kernel_rfl) ?_
      exact hK _ _ ⟨hs, hV.put (by show List.Nodup [0, 1, 2, 4, 5]; decide) (by show List.Nodup [81, 82, 83, 11, 12]; decide) 0 rfl (by decide) (by rw [hs]; decide), (by show J (addL L 0 3) _; rw [addL_ne L (by decide)]; exact hJ)⟩
    | 1, ho =>
      simp only [List.getElem?_toArray, List.getElem?_cons_zero, List.getElem?_cons_succ, Option.some.injEq] at ho
      subst ho
      have E14 := e14
      refine stp1 (v := .pointer (some ⟨g14, 3, none⟩)) (w' := W) (.tmp 14) _ rfl E14 (fun ρ hc hρ => by clear hV hK; first | (go_simp; done) | (go_simp; rfl)) ?_
      exact hK _ _ ⟨hs, hV.put (by show List.Nodup [0, 1, 2, 4, 5]; decide) (by show List.Nodup [81, 82, 83, 11, 12]; decide) 1 rfl (by decide) (by rw [hs]; decide), (by show J (addL L 1 3) _; rw [addL_ne L (by decide)]; exact hJ)⟩
    | 2, ho =>
      simp only [List.getElem?_toArray, List.getElem?_cons_zero, List.getElem?_cons_succ, Option.some.injEq] at ho
      subst ho
      have E82 := hV.get 1 rfl (hdep 1 (by decide))
      have hJ' := hJ
      rw [hJJ] at hJ'
      have hc3 : W.cell? ⟨g14, 3, none⟩ = some (.int .u8 a1) := (blk_cell hJ'.2.2.2.2 3).trans rfl
      refine stp1 (v := .int .u8 a1) (w' := W) (.tmp 82) _ rfl E82 (fun ρ hc hρ => by clear hV hK hJ hJ'; first | (go_simp; done) | (go_simp; rfl)) ?_
      exact hK _ _ ⟨hs, hV.put (by show List.Nodup [0, 1, 2, 4, 5]; decide) (by show List.Nodup [81, 82, 83, 11, 12]; decide) 2 rfl (by decide) (by rw [hs]; decide), (by show J (addL L 2 3) _; rw [addL_ne L (by decide)]; exact hJ)⟩
    | 3, ho =>
      simp only [List.getElem?_toArray, List.getElem?_cons_zero, List.getElem?_cons_succ, Option.some.injEq] at ho
      subst ho
      have E10 := e10
      have E81 := hV.get 0 rfl (hdep 0 (by decide))
      rw [hL, hJJ] at hJ
      simp only [Bool.false_eq_true, if_false] at hJ
      refine ⟨fun _ => wp_store_row 34 _ _ rfl g10 x.cells E10 E81 34 _ hJ.2.2.2.1 (by kernel_rfl) hz (by simp [InV.cells, Value.oneCell']) ?_, fun h2 => absurd h2 (by simp [Region.wanted])⟩
      have hJ2 : J true (W.setRow g10 x.cells) := by
        rw [hJJ]
        exact ⟨below_setRow hJ.1 hJ.2.2.1 _, (setRow_other W g10 g5 _ h5).trans hJ.2.1, hJ.2.2.1, setRow_heap W g10 _ _ _ _ hJ.2.2.2.1, (setRow_other W g10 g14 _ h14).trans hJ.2.2.2.2⟩
      exact hK _ _ ⟨hs, hV.skip (by show ¬ 3 ∈ [0, 1, 2, 4, 5]; decide), (by show J (addL L 3 3) _; rw [addL_self]; exact hJ2)⟩
    | 4, ho =>
      simp only [List.getElem?_toArray, List.getElem?_cons_zero, List.getElem?_cons_succ, Option.some.injEq] at ho
      subst ho
      have E83 := hV.get 2 rfl (hdep 2 (by decide))
      refine stp_move rfl (by first | exact .inl rfl | exact .inr rfl) ?_
      rw [E83]
      exact hK _ _ ⟨hs, hV.put (by show List.Nodup [0, 1, 2, 4, 5]; decide) (by show List.Nodup [81, 82, 83, 11, 12]; decide) 3 rfl (by decide) (by rw [hs]; decide), (by show J (addL L 4 3) _; rw [addL_ne L (by decide)]; exact hJ)⟩
    | 5, ho =>
      simp only [List.getElem?_toArray, List.getElem?_cons_zero, List.getElem?_cons_succ, Option.some.injEq] at ho
      subst ho
      refine stp_move rfl (by first | exact .inl rfl | exact .inr rfl) ?_
      exact hK _ _ ⟨hs, hV.put (by show List.Nodup [0, 1, 2, 4, 5]; decide) (by show List.Nodup [81, 82, 83, 11, 12]; decide) 4 rfl (by decide) (by rw [hs]; decide), (by show J (addL L 5 3) _; rw [addL_ne L (by decide)]; exact hJ)⟩
    | i' + 6, ho => simp at ho
  · intro L a W hI hall
    obtain ⟨_, hV, hJ⟩ := hI
    rw [hall 3 (by decide)] at hJ
    exact hQ _ _ _ hV hall hJ
set_option maxHeartbeats 4000000 in
set_option maxRecDepth 100000 in
theorem do_calls (i : InV) (what now at_ : Int) (c : CfV) (w : World) : Calls Try.prog 23 #[i.val, .int .u8 what, .int .u64 now, .int .u64 at_, c.val] w fun e w' => e = .returned (encDo (doI i what now at_ c)) ∧ Below w.heap.size w w' := by
  obtain ⟨rr, hrr⟩ : ∃ rr, doI i what now at_ c = rr := ⟨_, rfl⟩
  rw [hrr]
  obtain ⟨m, hm⟩ : ∃ m, instMay i = m := ⟨_, rfl⟩
  obtain ⟨sp, hsp⟩ : ∃ sp, spansB c = sp := ⟨_, rfl⟩
  obtain ⟨st, hst⟩ : ∃ st, staysI i what now = st := ⟨_, rfl⟩
  obtain ⟨⟨⟨s1, d1, t1, a1⟩, ok⟩, hfr⟩ : ∃ fr, findR i what c = fr := ⟨_, rfl⟩
  have KM0 := instMay_calls i
  have KS0 := spans_calls c
  have KT0 := stays_calls i what now
  have KF0 := find_calls i what c
  rw [hm] at KM0
  rw [hsp] at KS0
  rw [hst] at KT0
  rw [hfr] at KF0
  simp only [doI, doBad, hm, hsp, hst, hfr] at hrr
  clear hm hsp hst hfr
  obtain ⟨i0, i1, i2, i3, i4, i5, i6, i7, i8, i9, i10, i11⟩ := i
  obtain ⟨hi, ho, dr, dl⟩ := c
  simp only [doMark] at hrr
  simp only [InV.val, InV.cells, CfV.val, CfV.cells, encR] at KM0 KS0 KT0 KF0 ⊢
  have KM := Lib.hid KM0
  have KS := Lib.hid KS0
  have KT := Lib.hid KT0
  have KF := Lib.hid KF0
  have HRR := Lib.hid hrr
  clear KM0 KS0 KT0 KF0
  clear hrr
  have HBel : Below w.heap.size w w := Below.refl _ _
  go_enter Try.func23, Try.ntmps23
  go_upto_region 1 with fail
  refine gen_w (fun W => W.heap[w.heap.size]? = some (.cells #[.int .u64 i0, .int .u64 i1, .int .i64 i2, .int .i64 i3, .bool i4, .int .u8 i5, .int .u64 i6, .bool i7, .int .u64 i8, .bool i9, .bool i10, .int .u32 i11] 34 (0, 0)) ∧ W.heap[w.heap.size + 1]? = some (.cells (CfV.cells ⟨hi, ho, dr, dl⟩) 41 (0, 0)) ∧ W.heap[w.heap.size + 1 + 1]? = some (.cells #[.int .u64 0, .int .u64 0, .int .i64 0, .int .i64 0, .bool false, .int .u8 0, .int .u64 0, .bool false, .int .u64 0, .bool false, .bool false, .int .u32 0] 34 (0, 0)) ∧ Below w.heap.size w W) ⟨alloc_old _ _ (alloc_old _ _ (heap_alloc_new _ _)), alloc_old _ _ (newest _ _ _ (by simp)), newest _ _ _ (by simp), below_alloc (below_alloc (below_alloc HBel _) _) _⟩ ?_
  rintro W ⟨hI, hC, hO, hB⟩
  simp only [CfV.cells] at hC
  have HI := Lib.hid hI
  have HC := Lib.hid hC
  have HO := Lib.hid hO
  have HB := Lib.hid hB
  clear hI hC hO hB
  cases m
  · go_wp2_with (first | (go_at_call 20; (with_reducible refine (KM.out _).mono ?_); rintro e w1 ⟨rfl, hb⟩; have HI := Lib.hid (blk_call hb HI.out); have HC := Lib.hid (blk_call hb HC.out); have HO := Lib.hid (blk_call hb HO.out); have HB := Lib.hid (below_step HB.out hb); clear hb) | (go_at_call 73; (with_reducible refine (KS.out _).mono ?_); rintro e w1 ⟨rfl, hb⟩; have HI := Lib.hid (blk_call hb HI.out); have HC := Lib.hid (blk_call hb HC.out); have HO := Lib.hid (blk_call hb HO.out); have HB := Lib.hid (below_step HB.out hb); clear hb) | (go_at_call 74; (with_reducible refine (KT.out _).mono ?_); rintro e w1 ⟨rfl, hb⟩; have HI := Lib.hid (blk_call hb HI.out); have HC := Lib.hid (blk_call hb HC.out); have HO := Lib.hid (blk_call hb HO.out); have HB := Lib.hid (below_step HB.out hb); clear hb) | (go_at_call 75; (with_reducible refine (KF.out _).mono ?_); rintro e w1 ⟨rfl, hb⟩; have HI := Lib.hid (blk_call hb HI.out); have HC := Lib.hid (blk_call hb HC.out); have HO := Lib.hid (blk_call hb HO.out); have HB := Lib.hid (below_step HB.out hb); clear hb) | ((with_reducible refine gate_load 34 rfl ?_); refine wpList_load_row rfl 34 _ rfl _ rfl 34 _ _ _ (by exact HI.out) Try.underlying34 rfl (by kernel_rfl) ?_) | ((with_reducible refine gate_load 41 rfl ?_); refine wpList_load_row rfl 41 _ rfl _ rfl 41 _ _ _ (by exact HC.out) Try.underlying41 rfl (by kernel_rfl) ?_) | ((with_reducible refine gate_load 41 rfl ?_); refine load_row_g (by rfl) 41 _ rfl _ rfl 41 _ _ _ (by exact HC.out) Try.underlying41 rfl (by kernel_rfl) ?_) | ((with_reducible refine gate_storeT 34 rfl ?_); refine bx_row rfl 34 _ _ rfl _ rfl _ rfl 34 _ HO.out (by kernel_rfl) rfl (by simp [Value.oneCell']) HB.out (by omega) ?_; intro W2 hr hsz hk hb2; have HO := Lib.hid hr; have HB := Lib.hid hb2; clear hr hk hb2) | ((with_reducible refine gate_storeT 133 rfl ?_); refine bx_row rfl 133 _ _ rfl _ rfl _ rfl 133 _ (heap_alloc_new _ _) (by kernel_rfl) rfl (by simp [Value.oneCell']) (below_alloc HB.out _) HB.out.size ?_; intro W2 hr hsz hk hb2; have HI := Lib.hid ((hk _ (Nat.ne_of_lt (blk_lt HI.out))).trans (alloc_old _ _ HI.out)); have HC := Lib.hid ((hk _ (Nat.ne_of_lt (blk_lt HC.out))).trans (alloc_old _ _ HC.out)); have HO0 := HO; have HO := Lib.hid ((hk _ (Nat.ne_of_lt (blk_lt HO.out))).trans (alloc_old _ _ HO.out)); have HR := Lib.hid hr; have HlR := Lib.hid (show w.heap.size + 1 + 1 < _ from blk_lt HO0.out); have HB := Lib.hid hb2; clear hr hk hb2) | ((with_reducible refine gate_storeT 4 rfl ?_); refine bx_store1 rfl 4 _ _ rfl _ _ rfl _ rfl 34 _ HI.out (by kernel_rfl) (by simp) rfl _ (by simp only [List.setIfInBounds_toArray, List.set_cons_succ, List.set_cons_zero]) HB.out (by omega) ?_; intro W2 hr hsz hk hb2; have HC := Lib.hid ((hk _ (by omega)).trans HC.out); have HO := Lib.hid ((hk _ (by omega)).trans HO.out); have HR := Lib.hid ((hk _ (by have h1 := HlR.out; omega)).trans HR.out); have HI := Lib.hid hr; have HB := Lib.hid hb2; clear hr hk hb2) | ((with_reducible refine gate_storeT 31 rfl ?_); refine bx_store1 rfl 31 _ _ rfl _ _ rfl _ rfl 34 _ HI.out (by kernel_rfl) (by simp) rfl _ (by simp only [List.setIfInBounds_toArray, List.set_cons_succ, List.set_cons_zero]) HB.out (by omega) ?_; intro W2 hr hsz hk hb2; have HC := Lib.hid ((hk _ (by omega)).trans HC.out); have HO := Lib.hid ((hk _ (by omega)).trans HO.out); have HR := Lib.hid ((hk _ (by have h1 := HlR.out; omega)).trans HR.out); have HI := Lib.hid hr; have HB := Lib.hid hb2; clear hr hk hb2) | ((with_reducible refine gate_storeT 5 rfl ?_); refine bx_store1 rfl 5 _ _ rfl _ _ rfl _ rfl 34 _ HI.out (by kernel_rfl) (by simp) rfl _ (by simp only [List.setIfInBounds_toArray, List.set_cons_succ, List.set_cons_zero]) HB.out (by omega) ?_; intro W2 hr hsz hk hb2; have HC := Lib.hid ((hk _ (by omega)).trans HC.out); have HO := Lib.hid ((hk _ (by omega)).trans HO.out); have HR := Lib.hid ((hk _ (by have h1 := HlR.out; omega)).trans HR.out); have HI := Lib.hid hr; have HB := Lib.hid hb2; clear hr hk hb2))
    all_goals (refine bodyPost_ret (res3 rfl rfl (run_loadVar_box 34 _ 34 _ _ _ HO.out Try.underlying34 rfl (by kernel_rfl))) rfl ⟨?_, HB.out⟩; rw [← HRR.out]; simp [encDo, InV.val, InV.cells, *])
  by_cases hb1 : what < 1
  · go_wp2_with (first | (go_at_call 20; (with_reducible refine (KM.out _).mono ?_); rintro e w1 ⟨rfl, hb⟩; have HI := Lib.hid (blk_call hb HI.out); have HC := Lib.hid (blk_call hb HC.out); have HO := Lib.hid (blk_call hb HO.out); have HB := Lib.hid (below_step HB.out hb); clear hb) | (go_at_call 73; (with_reducible refine (KS.out _).mono ?_); rintro e w1 ⟨rfl, hb⟩; have HI := Lib.hid (blk_call hb HI.out); have HC := Lib.hid (blk_call hb HC.out); have HO := Lib.hid (blk_call hb HO.out); have HB := Lib.hid (below_step HB.out hb); clear hb) | (go_at_call 74; (with_reducible refine (KT.out _).mono ?_); rintro e w1 ⟨rfl, hb⟩; have HI := Lib.hid (blk_call hb HI.out); have HC := Lib.hid (blk_call hb HC.out); have HO := Lib.hid (blk_call hb HO.out); have HB := Lib.hid (below_step HB.out hb); clear hb) | (go_at_call 75; (with_reducible refine (KF.out _).mono ?_); rintro e w1 ⟨rfl, hb⟩; have HI := Lib.hid (blk_call hb HI.out); have HC := Lib.hid (blk_call hb HC.out); have HO := Lib.hid (blk_call hb HO.out); have HB := Lib.hid (below_step HB.out hb); clear hb) | ((with_reducible refine gate_load 34 rfl ?_); refine wpList_load_row rfl 34 _ rfl _ rfl 34 _ _ _ (by exact HI.out) Try.underlying34 rfl (by kernel_rfl) ?_) | ((with_reducible refine gate_load 41 rfl ?_); refine wpList_load_row rfl 41 _ rfl _ rfl 41 _ _ _ (by exact HC.out) Try.underlying41 rfl (by kernel_rfl) ?_) | ((with_reducible refine gate_storeT 34 rfl ?_); refine bx_row rfl 34 _ _ rfl _ rfl _ rfl 34 _ HO.out (by kernel_rfl) rfl (by simp [Value.oneCell']) HB.out (by omega) ?_; intro W2 hr hsz hk hb2; have HO := Lib.hid hr; have HB := Lib.hid hb2; clear hr hk hb2) | ((with_reducible refine gate_storeT 133 rfl ?_); refine bx_row rfl 133 _ _ rfl _ rfl _ rfl 133 _ (heap_alloc_new _ _) (by kernel_rfl) rfl (by simp [Value.oneCell']) (below_alloc HB.out _) HB.out.size ?_; intro W2 hr hsz hk hb2; have HI := Lib.hid ((hk _ (Nat.ne_of_lt (blk_lt HI.out))).trans (alloc_old _ _ HI.out)); have HC := Lib.hid ((hk _ (Nat.ne_of_lt (blk_lt HC.out))).trans (alloc_old _ _ HC.out)); have HO0 := HO; have HO := Lib.hid ((hk _ (Nat.ne_of_lt (blk_lt HO.out))).trans (alloc_old _ _ HO.out)); have HR := Lib.hid hr; have HlR := Lib.hid (show w.heap.size + 1 + 1 < _ from blk_lt HO0.out); have HB := Lib.hid hb2; clear hr hk hb2) | ((with_reducible refine gate_storeT 4 rfl ?_); refine bx_store1 rfl 4 _ _ rfl _ _ rfl _ rfl 34 _ HI.out (by kernel_rfl) (by simp) rfl _ (by simp only [List.setIfInBounds_toArray, List.set_cons_succ, List.set_cons_zero]) HB.out (by omega) ?_; intro W2 hr hsz hk hb2; have HC := Lib.hid ((hk _ (by omega)).trans HC.out); have HO := Lib.hid ((hk _ (by omega)).trans HO.out); have HR := Lib.hid ((hk _ (by have h1 := HlR.out; omega)).trans HR.out); have HI := Lib.hid hr; have HB := Lib.hid hb2; clear hr hk hb2) | ((with_reducible refine gate_storeT 31 rfl ?_); refine bx_store1 rfl 31 _ _ rfl _ _ rfl _ rfl 34 _ HI.out (by kernel_rfl) (by simp) rfl _ (by simp only [List.setIfInBounds_toArray, List.set_cons_succ, List.set_cons_zero]) HB.out (by omega) ?_; intro W2 hr hsz hk hb2; have HC := Lib.hid ((hk _ (by omega)).trans HC.out); have HO := Lib.hid ((hk _ (by omega)).trans HO.out); have HR := Lib.hid ((hk _ (by have h1 := HlR.out; omega)).trans HR.out); have HI := Lib.hid hr; have HB := Lib.hid hb2; clear hr hk hb2) | ((with_reducible refine gate_storeT 5 rfl ?_); refine bx_store1 rfl 5 _ _ rfl _ _ rfl _ rfl 34 _ HI.out (by kernel_rfl) (by simp) rfl _ (by simp only [List.setIfInBounds_toArray, List.set_cons_succ, List.set_cons_zero]) HB.out (by omega) ?_; intro W2 hr hsz hk hb2; have HC := Lib.hid ((hk _ (by omega)).trans HC.out); have HO := Lib.hid ((hk _ (by omega)).trans HO.out); have HR := Lib.hid ((hk _ (by have h1 := HlR.out; omega)).trans HR.out); have HI := Lib.hid hr; have HB := Lib.hid hb2; clear hr hk hb2))
    all_goals (refine bodyPost_ret (res3 rfl rfl (run_loadVar_box 34 _ 34 _ _ _ HO.out Try.underlying34 rfl (by kernel_rfl))) rfl ⟨?_, HB.out⟩; rw [← HRR.out]; simp [encDo, InV.val, InV.cells, *])
  by_cases hb2 : 11 < what
  · go_wp2_with (first | (go_at_call 20; (with_reducible refine (KM.out _).mono ?_); rintro e w1 ⟨rfl, hb⟩; have HI := Lib.hid (blk_call hb HI.out); have HC := Lib.hid (blk_call hb HC.out); have HO := Lib.hid (blk_call hb HO.out); have HB := Lib.hid (below_step HB.out hb); clear hb) | (go_at_call 73; (with_reducible refine (KS.out _).mono ?_); rintro e w1 ⟨rfl, hb⟩; have HI := Lib.hid (blk_call hb HI.out); have HC := Lib.hid (blk_call hb HC.out); have HO := Lib.hid (blk_call hb HO.out); have HB := Lib.hid (below_step HB.out hb); clear hb) | (go_at_call 74; (with_reducible refine (KT.out _).mono ?_); rintro e w1 ⟨rfl, hb⟩; have HI := Lib.hid (blk_call hb HI.out); have HC := Lib.hid (blk_call hb HC.out); have HO := Lib.hid (blk_call hb HO.out); have HB := Lib.hid (below_step HB.out hb); clear hb) | (go_at_call 75; (with_reducible refine (KF.out _).mono ?_); rintro e w1 ⟨rfl, hb⟩; have HI := Lib.hid (blk_call hb HI.out); have HC := Lib.hid (blk_call hb HC.out); have HO := Lib.hid (blk_call hb HO.out); have HB := Lib.hid (below_step HB.out hb); clear hb) | ((with_reducible refine gate_load 34 rfl ?_); refine wpList_load_row rfl 34 _ rfl _ rfl 34 _ _ _ (by exact HI.out) Try.underlying34 rfl (by kernel_rfl) ?_) | ((with_reducible refine gate_load 41 rfl ?_); refine wpList_load_row rfl 41 _ rfl _ rfl 41 _ _ _ (by exact HC.out) Try.underlying41 rfl (by kernel_rfl) ?_) | ((with_reducible refine gate_storeT 34 rfl ?_); refine bx_row rfl 34 _ _ rfl _ rfl _ rfl 34 _ HO.out (by kernel_rfl) rfl (by simp [Value.oneCell']) HB.out (by omega) ?_; intro W2 hr hsz hk hb2; have HO := Lib.hid hr; have HB := Lib.hid hb2; clear hr hk hb2) | ((with_reducible refine gate_storeT 133 rfl ?_); refine bx_row rfl 133 _ _ rfl _ rfl _ rfl 133 _ (heap_alloc_new _ _) (by kernel_rfl) rfl (by simp [Value.oneCell']) (below_alloc HB.out _) HB.out.size ?_; intro W2 hr hsz hk hb2; have HI := Lib.hid ((hk _ (Nat.ne_of_lt (blk_lt HI.out))).trans (alloc_old _ _ HI.out)); have HC := Lib.hid ((hk _ (Nat.ne_of_lt (blk_lt HC.out))).trans (alloc_old _ _ HC.out)); have HO0 := HO; have HO := Lib.hid ((hk _ (Nat.ne_of_lt (blk_lt HO.out))).trans (alloc_old _ _ HO.out)); have HR := Lib.hid hr; have HlR := Lib.hid (show w.heap.size + 1 + 1 < _ from blk_lt HO0.out); have HB := Lib.hid hb2; clear hr hk hb2) | ((with_reducible refine gate_storeT 4 rfl ?_); refine bx_store1 rfl 4 _ _ rfl _ _ rfl _ rfl 34 _ HI.out (by kernel_rfl) (by simp) rfl _ (by simp only [List.setIfInBounds_toArray, List.set_cons_succ, List.set_cons_zero]) HB.out (by omega) ?_; intro W2 hr hsz hk hb2; have HC := Lib.hid ((hk _ (by omega)).trans HC.out); have HO := Lib.hid ((hk _ (by omega)).trans HO.out); have HR := Lib.hid ((hk _ (by have h1 := HlR.out; omega)).trans HR.out); have HI := Lib.hid hr; have HB := Lib.hid hb2; clear hr hk hb2) | ((with_reducible refine gate_storeT 31 rfl ?_); refine bx_store1 rfl 31 _ _ rfl _ _ rfl _ rfl 34 _ HI.out (by kernel_rfl) (by simp) rfl _ (by simp only [List.setIfInBounds_toArray, List.set_cons_succ, List.set_cons_zero]) HB.out (by omega) ?_; intro W2 hr hsz hk hb2; have HC := Lib.hid ((hk _ (by omega)).trans HC.out); have HO := Lib.hid ((hk _ (by omega)).trans HO.out); have HR := Lib.hid ((hk _ (by have h1 := HlR.out; omega)).trans HR.out); have HI := Lib.hid hr; have HB := Lib.hid hb2; clear hr hk hb2) | ((with_reducible refine gate_storeT 5 rfl ?_); refine bx_store1 rfl 5 _ _ rfl _ _ rfl _ rfl 34 _ HI.out (by kernel_rfl) (by simp) rfl _ (by simp only [List.setIfInBounds_toArray, List.set_cons_succ, List.set_cons_zero]) HB.out (by omega) ?_; intro W2 hr hsz hk hb2; have HC := Lib.hid ((hk _ (by omega)).trans HC.out); have HO := Lib.hid ((hk _ (by omega)).trans HO.out); have HR := Lib.hid ((hk _ (by have h1 := HlR.out; omega)).trans HR.out); have HI := Lib.hid hr; have HB := Lib.hid hb2; clear hr hk hb2))
    all_goals (refine bodyPost_ret (res3 rfl rfl (run_loadVar_box 34 _ 34 _ _ _ HO.out Try.underlying34 rfl (by kernel_rfl))) rfl ⟨?_, HB.out⟩; rw [← HRR.out]; simp [encDo, InV.val, InV.cells, *])
  by_cases hb3 : 1099511627776 < now
  · go_wp2_with (first | (go_at_call 20; (with_reducible refine (KM.out _).mono ?_); rintro e w1 ⟨rfl, hb⟩; have HI := Lib.hid (blk_call hb HI.out); have HC := Lib.hid (blk_call hb HC.out); have HO := Lib.hid (blk_call hb HO.out); have HB := Lib.hid (below_step HB.out hb); clear hb) | (go_at_call 73; (with_reducible refine (KS.out _).mono ?_); rintro e w1 ⟨rfl, hb⟩; have HI := Lib.hid (blk_call hb HI.out); have HC := Lib.hid (blk_call hb HC.out); have HO := Lib.hid (blk_call hb HO.out); have HB := Lib.hid (below_step HB.out hb); clear hb) | (go_at_call 74; (with_reducible refine (KT.out _).mono ?_); rintro e w1 ⟨rfl, hb⟩; have HI := Lib.hid (blk_call hb HI.out); have HC := Lib.hid (blk_call hb HC.out); have HO := Lib.hid (blk_call hb HO.out); have HB := Lib.hid (below_step HB.out hb); clear hb) | (go_at_call 75; (with_reducible refine (KF.out _).mono ?_); rintro e w1 ⟨rfl, hb⟩; have HI := Lib.hid (blk_call hb HI.out); have HC := Lib.hid (blk_call hb HC.out); have HO := Lib.hid (blk_call hb HO.out); have HB := Lib.hid (below_step HB.out hb); clear hb) | ((with_reducible refine gate_load 34 rfl ?_); refine wpList_load_row rfl 34 _ rfl _ rfl 34 _ _ _ (by exact HI.out) Try.underlying34 rfl (by kernel_rfl) ?_) | ((with_reducible refine gate_load 41 rfl ?_); refine wpList_load_row rfl 41 _ rfl _ rfl 41 _ _ _ (by exact HC.out) Try.underlying41 rfl (by kernel_rfl) ?_) | ((with_reducible refine gate_storeT 34 rfl ?_); refine bx_row rfl 34 _ _ rfl _ rfl _ rfl 34 _ HO.out (by kernel_rfl) rfl (by simp [Value.oneCell']) HB.out (by omega) ?_; intro W2 hr hsz hk hb2; have HO := Lib.hid hr; have HB := Lib.hid hb2; clear hr hk hb2) | ((with_reducible refine gate_storeT 133 rfl ?_); refine bx_row rfl 133 _ _ rfl _ rfl _ rfl 133 _ (heap_alloc_new _ _) (by kernel_rfl) rfl (by simp [Value.oneCell']) (below_alloc HB.out _) HB.out.size ?_; intro W2 hr hsz hk hb2; have HI := Lib.hid ((hk _ (Nat.ne_of_lt (blk_lt HI.out))).trans (alloc_old _ _ HI.out)); have HC := Lib.hid ((hk _ (Nat.ne_of_lt (blk_lt HC.out))).trans (alloc_old _ _ HC.out)); have HO0 := HO; have HO := Lib.hid ((hk _ (Nat.ne_of_lt (blk_lt HO.out))).trans (alloc_old _ _ HO.out)); have HR := Lib.hid hr; have HlR := Lib.hid (show w.heap.size + 1 + 1 < _ from blk_lt HO0.out); have HB := Lib.hid hb2; clear hr hk hb2) | ((with_reducible refine gate_storeT 4 rfl ?_); refine bx_store1 rfl 4 _ _ rfl _ _ rfl _ rfl 34 _ HI.out (by kernel_rfl) (by simp) rfl _ (by simp only [List.setIfInBounds_toArray, List.set_cons_succ, List.set_cons_zero]) HB.out (by omega) ?_; intro W2 hr hsz hk hb2; have HC := Lib.hid ((hk _ (by omega)).trans HC.out); have HO := Lib.hid ((hk _ (by omega)).trans HO.out); have HR := Lib.hid ((hk _ (by have h1 := HlR.out; omega)).trans HR.out); have HI := Lib.hid hr; have HB := Lib.hid hb2; clear hr hk hb2) | ((with_reducible refine gate_storeT 31 rfl ?_); refine bx_store1 rfl 31 _ _ rfl _ _ rfl _ rfl 34 _ HI.out (by kernel_rfl) (by simp) rfl _ (by simp only [List.setIfInBounds_toArray, List.set_cons_succ, List.set_cons_zero]) HB.out (by omega) ?_; intro W2 hr hsz hk hb2; have HC := Lib.hid ((hk _ (by omega)).trans HC.out); have HO := Lib.hid ((hk _ (by omega)).trans HO.out); have HR := Lib.hid ((hk _ (by have h1 := HlR.out; omega)).trans HR.out); have HI := Lib.hid hr; have HB := Lib.hid hb2; clear hr hk hb2) | ((with_reducible refine gate_storeT 5 rfl ?_); refine bx_store1 rfl 5 _ _ rfl _ _ rfl _ rfl 34 _ HI.out (by kernel_rfl) (by simp) rfl _ (by simp only [List.setIfInBounds_toArray, List.set_cons_succ, List.set_cons_zero]) HB.out (by omega) ?_; intro W2 hr hsz hk hb2; have HC := Lib.hid ((hk _ (by omega)).trans HC.out); have HO := Lib.hid ((hk _ (by omega)).trans HO.out); have HR := Lib.hid ((hk _ (by have h1 := HlR.out; omega)).trans HR.out); have HI := Lib.hid hr; have HB := Lib.hid hb2; clear hr hk hb2))
    all_goals (refine bodyPost_ret (res3 rfl rfl (run_loadVar_box 34 _ 34 _ _ _ HO.out Try.underlying34 rfl (by kernel_rfl))) rfl ⟨?_, HB.out⟩; rw [← HRR.out]; simp [encDo, InV.val, InV.cells, *])
  by_cases hb4 : 1099511627776 < at_
  · go_wp2_with (first | (go_at_call 20; (with_reducible refine (KM.out _).mono ?_); rintro e w1 ⟨rfl, hb⟩; have HI := Lib.hid (blk_call hb HI.out); have HC := Lib.hid (blk_call hb HC.out); have HO := Lib.hid (blk_call hb HO.out); have HB := Lib.hid (below_step HB.out hb); clear hb) | (go_at_call 73; (with_reducible refine (KS.out _).mono ?_); rintro e w1 ⟨rfl, hb⟩; have HI := Lib.hid (blk_call hb HI.out); have HC := Lib.hid (blk_call hb HC.out); have HO := Lib.hid (blk_call hb HO.out); have HB := Lib.hid (below_step HB.out hb); clear hb) | (go_at_call 74; (with_reducible refine (KT.out _).mono ?_); rintro e w1 ⟨rfl, hb⟩; have HI := Lib.hid (blk_call hb HI.out); have HC := Lib.hid (blk_call hb HC.out); have HO := Lib.hid (blk_call hb HO.out); have HB := Lib.hid (below_step HB.out hb); clear hb) | (go_at_call 75; (with_reducible refine (KF.out _).mono ?_); rintro e w1 ⟨rfl, hb⟩; have HI := Lib.hid (blk_call hb HI.out); have HC := Lib.hid (blk_call hb HC.out); have HO := Lib.hid (blk_call hb HO.out); have HB := Lib.hid (below_step HB.out hb); clear hb) | ((with_reducible refine gate_load 34 rfl ?_); refine wpList_load_row rfl 34 _ rfl _ rfl 34 _ _ _ (by exact HI.out) Try.underlying34 rfl (by kernel_rfl) ?_) | ((with_reducible refine gate_load 41 rfl ?_); refine wpList_load_row rfl 41 _ rfl _ rfl 41 _ _ _ (by exact HC.out) Try.underlying41 rfl (by kernel_rfl) ?_) | ((with_reducible refine gate_storeT 34 rfl ?_); refine bx_row rfl 34 _ _ rfl _ rfl _ rfl 34 _ HO.out (by kernel_rfl) rfl (by simp [Value.oneCell']) HB.out (by omega) ?_; intro W2 hr hsz hk hb2; have HO := Lib.hid hr; have HB := Lib.hid hb2; clear hr hk hb2) | ((with_reducible refine gate_storeT 133 rfl ?_); refine bx_row rfl 133 _ _ rfl _ rfl _ rfl 133 _ (heap_alloc_new _ _) (by kernel_rfl) rfl (by simp [Value.oneCell']) (below_alloc HB.out _) HB.out.size ?_; intro W2 hr hsz hk hb2; have HI := Lib.hid ((hk _ (Nat.ne_of_lt (blk_lt HI.out))).trans (alloc_old _ _ HI.out)); have HC := Lib.hid ((hk _ (Nat.ne_of_lt (blk_lt HC.out))).trans (alloc_old _ _ HC.out)); have HO0 := HO; have HO := Lib.hid ((hk _ (Nat.ne_of_lt (blk_lt HO.out))).trans (alloc_old _ _ HO.out)); have HR := Lib.hid hr; have HlR := Lib.hid (show w.heap.size + 1 + 1 < _ from blk_lt HO0.out); have HB := Lib.hid hb2; clear hr hk hb2) | ((with_reducible refine gate_storeT 4 rfl ?_); refine bx_store1 rfl 4 _ _ rfl _ _ rfl _ rfl 34 _ HI.out (by kernel_rfl) (by simp) rfl _ (by simp only [List.setIfInBounds_toArray, List.set_cons_succ, List.set_cons_zero]) HB.out (by omega) ?_; intro W2 hr hsz hk hb2; have HC := Lib.hid ((hk _ (by omega)).trans HC.out); have HO := Lib.hid ((hk _ (by omega)).trans HO.out); have HR := Lib.hid ((hk _ (by have h1 := HlR.out; omega)).trans HR.out); have HI := Lib.hid hr; have HB := Lib.hid hb2; clear hr hk hb2) | ((with_reducible refine gate_storeT 31 rfl ?_); refine bx_store1 rfl 31 _ _ rfl _ _ rfl _ rfl 34 _ HI.out (by kernel_rfl) (by simp) rfl _ (by simp only [List.setIfInBounds_toArray, List.set_cons_succ, List.set_cons_zero]) HB.out (by omega) ?_; intro W2 hr hsz hk hb2; have HC := Lib.hid ((hk _ (by omega)).trans HC.out); have HO := Lib.hid ((hk _ (by omega)).trans HO.out); have HR := Lib.hid ((hk _ (by have h1 := HlR.out; omega)).trans HR.out); have HI := Lib.hid hr; have HB := Lib.hid hb2; clear hr hk hb2) | ((with_reducible refine gate_storeT 5 rfl ?_); refine bx_store1 rfl 5 _ _ rfl _ _ rfl _ rfl 34 _ HI.out (by kernel_rfl) (by simp) rfl _ (by simp only [List.setIfInBounds_toArray, List.set_cons_succ, List.set_cons_zero]) HB.out (by omega) ?_; intro W2 hr hsz hk hb2; have HC := Lib.hid ((hk _ (by omega)).trans HC.out); have HO := Lib.hid ((hk _ (by omega)).trans HO.out); have HR := Lib.hid ((hk _ (by have h1 := HlR.out; omega)).trans HR.out); have HI := Lib.hid hr; have HB := Lib.hid hb2; clear hr hk hb2))
    all_goals (refine bodyPost_ret (res3 rfl rfl (run_loadVar_box 34 _ 34 _ _ _ HO.out Try.underlying34 rfl (by kernel_rfl))) rfl ⟨?_, HB.out⟩; rw [← HRR.out]; simp [encDo, InV.val, InV.cells, *])
  cases sp
  · go_wp2_with (first | (go_at_call 20; (with_reducible refine (KM.out _).mono ?_); rintro e w1 ⟨rfl, hb⟩; have HI := Lib.hid (blk_call hb HI.out); have HC := Lib.hid (blk_call hb HC.out); have HO := Lib.hid (blk_call hb HO.out); have HB := Lib.hid (below_step HB.out hb); clear hb) | (go_at_call 73; (with_reducible refine (KS.out _).mono ?_); rintro e w1 ⟨rfl, hb⟩; have HI := Lib.hid (blk_call hb HI.out); have HC := Lib.hid (blk_call hb HC.out); have HO := Lib.hid (blk_call hb HO.out); have HB := Lib.hid (below_step HB.out hb); clear hb) | (go_at_call 74; (with_reducible refine (KT.out _).mono ?_); rintro e w1 ⟨rfl, hb⟩; have HI := Lib.hid (blk_call hb HI.out); have HC := Lib.hid (blk_call hb HC.out); have HO := Lib.hid (blk_call hb HO.out); have HB := Lib.hid (below_step HB.out hb); clear hb) | (go_at_call 75; (with_reducible refine (KF.out _).mono ?_); rintro e w1 ⟨rfl, hb⟩; have HI := Lib.hid (blk_call hb HI.out); have HC := Lib.hid (blk_call hb HC.out); have HO := Lib.hid (blk_call hb HO.out); have HB := Lib.hid (below_step HB.out hb); clear hb) | ((with_reducible refine gate_load 34 rfl ?_); refine wpList_load_row rfl 34 _ rfl _ rfl 34 _ _ _ (by exact HI.out) Try.underlying34 rfl (by kernel_rfl) ?_) | ((with_reducible refine gate_load 41 rfl ?_); refine wpList_load_row rfl 41 _ rfl _ rfl 41 _ _ _ (by exact HC.out) Try.underlying41 rfl (by kernel_rfl) ?_) | ((with_reducible refine gate_load 41 rfl ?_); refine load_row_g (by rfl) 41 _ rfl _ rfl 41 _ _ _ (by exact HC.out) Try.underlying41 rfl (by kernel_rfl) ?_) | ((with_reducible refine gate_storeT 34 rfl ?_); refine bx_row rfl 34 _ _ rfl _ rfl _ rfl 34 _ HO.out (by kernel_rfl) rfl (by simp [Value.oneCell']) HB.out (by omega) ?_; intro W2 hr hsz hk hb2; have HO := Lib.hid hr; have HB := Lib.hid hb2; clear hr hk hb2) | ((with_reducible refine gate_storeT 133 rfl ?_); refine bx_row rfl 133 _ _ rfl _ rfl _ rfl 133 _ (heap_alloc_new _ _) (by kernel_rfl) rfl (by simp [Value.oneCell']) (below_alloc HB.out _) HB.out.size ?_; intro W2 hr hsz hk hb2; have HI := Lib.hid ((hk _ (Nat.ne_of_lt (blk_lt HI.out))).trans (alloc_old _ _ HI.out)); have HC := Lib.hid ((hk _ (Nat.ne_of_lt (blk_lt HC.out))).trans (alloc_old _ _ HC.out)); have HO0 := HO; have HO := Lib.hid ((hk _ (Nat.ne_of_lt (blk_lt HO.out))).trans (alloc_old _ _ HO.out)); have HR := Lib.hid hr; have HlR := Lib.hid (show w.heap.size + 1 + 1 < _ from blk_lt HO0.out); have HB := Lib.hid hb2; clear hr hk hb2) | ((with_reducible refine gate_storeT 4 rfl ?_); refine bx_store1 rfl 4 _ _ rfl _ _ rfl _ rfl 34 _ HI.out (by kernel_rfl) (by simp) rfl _ (by simp only [List.setIfInBounds_toArray, List.set_cons_succ, List.set_cons_zero]) HB.out (by omega) ?_; intro W2 hr hsz hk hb2; have HC := Lib.hid ((hk _ (by omega)).trans HC.out); have HO := Lib.hid ((hk _ (by omega)).trans HO.out); have HR := Lib.hid ((hk _ (by have h1 := HlR.out; omega)).trans HR.out); have HI := Lib.hid hr; have HB := Lib.hid hb2; clear hr hk hb2) | ((with_reducible refine gate_storeT 31 rfl ?_); refine bx_store1 rfl 31 _ _ rfl _ _ rfl _ rfl 34 _ HI.out (by kernel_rfl) (by simp) rfl _ (by simp only [List.setIfInBounds_toArray, List.set_cons_succ, List.set_cons_zero]) HB.out (by omega) ?_; intro W2 hr hsz hk hb2; have HC := Lib.hid ((hk _ (by omega)).trans HC.out); have HO := Lib.hid ((hk _ (by omega)).trans HO.out); have HR := Lib.hid ((hk _ (by have h1 := HlR.out; omega)).trans HR.out); have HI := Lib.hid hr; have HB := Lib.hid hb2; clear hr hk hb2) | ((with_reducible refine gate_storeT 5 rfl ?_); refine bx_store1 rfl 5 _ _ rfl _ _ rfl _ rfl 34 _ HI.out (by kernel_rfl) (by simp) rfl _ (by simp only [List.setIfInBounds_toArray, List.set_cons_succ, List.set_cons_zero]) HB.out (by omega) ?_; intro W2 hr hsz hk hb2; have HC := Lib.hid ((hk _ (by omega)).trans HC.out); have HO := Lib.hid ((hk _ (by omega)).trans HO.out); have HR := Lib.hid ((hk _ (by have h1 := HlR.out; omega)).trans HR.out); have HI := Lib.hid hr; have HB := Lib.hid hb2; clear hr hk hb2))
    all_goals (refine bodyPost_ret (res3 rfl rfl (run_loadVar_box 34 _ 34 _ _ _ HO.out Try.underlying34 rfl (by kernel_rfl))) rfl ⟨?_, HB.out⟩; rw [← HRR.out]; simp [encDo, InV.val, InV.cells, *])
  go_upto_region 5 with (first | (go_at_call 20; (with_reducible refine (KM.out _).mono ?_); rintro e w1 ⟨rfl, hb⟩; have HI := Lib.hid (blk_call hb HI.out); have HC := Lib.hid (blk_call hb HC.out); have HO := Lib.hid (blk_call hb HO.out); have HB := Lib.hid (below_step HB.out hb); clear hb) | (go_at_call 73; (with_reducible refine (KS.out _).mono ?_); rintro e w1 ⟨rfl, hb⟩; have HI := Lib.hid (blk_call hb HI.out); have HC := Lib.hid (blk_call hb HC.out); have HO := Lib.hid (blk_call hb HO.out); have HB := Lib.hid (below_step HB.out hb); clear hb) | (go_at_call 74; (with_reducible refine (KT.out _).mono ?_); rintro e w1 ⟨rfl, hb⟩; have HI := Lib.hid (blk_call hb HI.out); have HC := Lib.hid (blk_call hb HC.out); have HO := Lib.hid (blk_call hb HO.out); have HB := Lib.hid (below_step HB.out hb); clear hb) | (go_at_call 75; (with_reducible refine (KF.out _).mono ?_); rintro e w1 ⟨rfl, hb⟩; have HI := Lib.hid (blk_call hb HI.out); have HC := Lib.hid (blk_call hb HC.out); have HO := Lib.hid (blk_call hb HO.out); have HB := Lib.hid (below_step HB.out hb); clear hb) | ((with_reducible refine gate_load 34 rfl ?_); refine wpList_load_row rfl 34 _ rfl _ rfl 34 _ _ _ (by exact HI.out) Try.underlying34 rfl (by kernel_rfl) ?_) | ((with_reducible refine gate_load 41 rfl ?_); refine wpList_load_row rfl 41 _ rfl _ rfl 41 _ _ _ (by exact HC.out) Try.underlying41 rfl (by kernel_rfl) ?_) | ((with_reducible refine gate_load 41 rfl ?_); refine load_row_g (by rfl) 41 _ rfl _ rfl 41 _ _ _ (by exact HC.out) Try.underlying41 rfl (by kernel_rfl) ?_))
  all_goals try (exfalso; omega)
  have hlR := blk_lt HO.out
  refine gen_w (fun W => W.heap[w.heap.size]? = some (.cells #[.int .u64 i0, .int .u64 i1, .int .i64 i2, .int .i64 i3, .bool i4, .int .u8 i5, .int .u64 i6, .bool i7, .int .u64 i8, .bool i9, .bool i10, .int .u32 i11] 34 (0, 0)) ∧ W.heap[w.heap.size + 1]? = some (.cells #[.slice none 0 0, .int .u8 0, .int .i64 0, .bool false, .int .i64 0, .int .i64 0, .int .i64 0, .int .i64 0, .int .i64 0, .int .i64 0, .int .u64 dr, .int .u64 hi, .int .u64 ho, .int .u64 0, .int .u64 dl, .int .u64 0, .bool false, .int .i64 0, .slice none 0 0, .slice none 0 0] 41 (0, 0)) ∧ W.heap[w.heap.size + 1 + 1]? = some (.cells #[.int .u64 0, .int .u64 0, .int .i64 0, .int .i64 0, .bool false, .int .u8 0, .int .u64 0, .bool false, .int .u64 0, .bool false, .bool false, .int .u32 0] 34 (0, 0)) ∧ W.heap[w1.heap.size]? = some (.cells #[.int .u8 s1, .int .u64 d1, .bool t1, .int .u8 a1] 133 (0, 0)) ∧ Below w.heap.size w W) ⟨alloc_old _ _ HI.out, alloc_old _ _ HC.out, alloc_old _ _ HO.out, heap_alloc_new _ _, below_alloc HB.out _⟩ ?_
  clear HI HC HO HB
  rintro W ⟨hI, hC, hO, hR, hB⟩
  have HlR := Lib.hid hlR
  generalize w1.heap.size = g14 at *
  have HI := Lib.hid hI
  have HC := Lib.hid hC
  have HO := Lib.hid hO
  have HR := Lib.hid hR
  have HB := Lib.hid hB
  clear hI hC hO hB hR hlR
  have e1 : (what < 1) = False := by simp; omega
  have e2 : (11 < what) = False := by simp; omega
  have e3 : (1099511627776 < now) = False := by simp; omega
  have e4 : (1099511627776 < at_) = False := by simp; omega
  have hc5 : ∀ j v, (InV.cells ⟨i0, i1, i2, i3, i4, i5, i6, i7, i8, i9, i10, i11⟩)[j]? = some v → W.cell? ⟨w.heap.size, j, none⟩ = some v := fun j v h => (blk_cell HI.out j).trans h
  have hf5 : ∀ j, W.frozen? ⟨w.heap.size, j, none⟩ = false := fun j => by simp [World.frozen?, HI.out]
  have hm7 := hc5 7 _ rfl
  have hm8 := hc5 8 _ rfl
  have hm9 := hc5 9 _ rfl
  have hg7 := hf5 7
  have hg8 := hf5 8
  have hg9 := hf5 9
  clear hc5 hf5
  cases st
  · cases ok
    · go_wp2_with (first | ((with_reducible refine gate_load 34 rfl ?_); refine wpList_load_row rfl 34 _ rfl _ rfl 34 _ _ _ (by exact HI.out) Try.underlying34 rfl (by kernel_rfl) ?_) | ((with_reducible refine gate_load 41 rfl ?_); refine wpList_load_row rfl 41 _ rfl _ rfl 41 _ _ _ (by exact HC.out) Try.underlying41 rfl (by kernel_rfl) ?_) | ((with_reducible refine gate_storeT 34 rfl ?_); refine bx_row rfl 34 _ _ rfl _ rfl _ rfl 34 _ HO.out (by kernel_rfl) rfl (by simp [Value.oneCell']) HB.out (by omega) ?_; intro W2 hr hsz hk hb2; have HO := Lib.hid hr; have HB := Lib.hid hb2; clear hr hk hb2) | ((with_reducible refine gate_storeT 4 rfl ?_); refine bx_store1 rfl 4 _ _ rfl _ _ rfl _ rfl 34 _ HI.out (by kernel_rfl) (by simp) rfl _ (by simp only [List.setIfInBounds_toArray, List.set_cons_succ, List.set_cons_zero]) HB.out (by omega) ?_; intro W2 hr hsz hk hb2; have HC := Lib.hid ((hk _ (by omega)).trans HC.out); have HO := Lib.hid ((hk _ (by omega)).trans HO.out); have HR := Lib.hid ((hk _ (by have h1 := HlR.out; omega)).trans HR.out); have HI := Lib.hid hr; have HB := Lib.hid hb2; clear hr hk hb2) | ((with_reducible refine gate_storeT 31 rfl ?_); refine bx_store1 rfl 31 _ _ rfl _ _ rfl _ rfl 34 _ HI.out (by kernel_rfl) (by simp) rfl _ (by simp only [List.setIfInBounds_toArray, List.set_cons_succ, List.set_cons_zero]) HB.out (by omega) ?_; intro W2 hr hsz hk hb2; have HC := Lib.hid ((hk _ (by omega)).trans HC.out); have HO := Lib.hid ((hk _ (by omega)).trans HO.out); have HR := Lib.hid ((hk _ (by have h1 := HlR.out; omega)).trans HR.out); have HI := Lib.hid hr; have HB := Lib.hid hb2; clear hr hk hb2) | ((with_reducible refine gate_storeT 5 rfl ?_); refine bx_store1 rfl 5 _ _ rfl _ _ rfl _ rfl 34 _ HI.out (by kernel_rfl) (by simp) rfl _ (by simp only [List.setIfInBounds_toArray, List.set_cons_succ, List.set_cons_zero]) HB.out (by omega) ?_; intro W2 hr hsz hk hb2; have HC := Lib.hid ((hk _ (by omega)).trans HC.out); have HO := Lib.hid ((hk _ (by omega)).trans HO.out); have HR := Lib.hid ((hk _ (by have h1 := HlR.out; omega)).trans HR.out); have HI := Lib.hid hr; have HB := Lib.hid hb2; clear hr hk hb2))
      all_goals (refine bodyPost_ret (res3 rfl rfl (run_loadVar_box 34 _ 34 _ _ _ HO.out Try.underlying34 rfl (by kernel_rfl))) rfl ⟨?_, HB.out⟩; rw [← HRR.out]; simp [encDo, InV.val, InV.cells, *])
    · by_cases h2 : what = 2
      · subst h2
        cases t1
        · go_upto_region 12 with fail
          refine gen_w (fun W' => W'.heap[w.heap.size]? = some (.cells #[.int .u64 i0, .int .u64 i1, .int .i64 i2, .int .i64 i3, .bool i4, .int .u8 i5, .int .u64 i6, .bool true, .int .u64 at_, .bool i9, .bool i10, .int .u32 i11] 34 (0, 0)) ∧ (∀ k, k ≠ w.heap.size → W'.heap[k]? = W.heap[k]?) ∧ Below w.heap.size w W') ⟨((heap_setCell_in (heap_setCell_in HI.out 7 _) 8 _).trans rfl), (fun k hk => (heap_setCell_out 8 _ hk).trans (heap_setCell_out 7 _ hk)), ((HB.out.setCell (p := ⟨w.heap.size, 7, none⟩) (Nat.le_refl _) _).setCell (p := ⟨w.heap.size, 8, none⟩) (Nat.le_refl _) _)⟩ ?_
          rintro W2 ⟨hI, hk, hB⟩
          have HI := Lib.hid hI
          have HO := Lib.hid ((hk _ (by omega)).trans HO.out)
          have HR := Lib.hid ((hk _ (by have h1 := HlR.out; omega)).trans HR.out)
          have HB := Lib.hid hB
          clear hI hk hB hm7 hm8 hm9 hg7 hg8 hg9
          have hr0 : W2.cell? ⟨g14, 0, none⟩ = some (.int .u8 s1) := (blk_cell HR.out 0).trans rfl
          have hr1 : W2.cell? ⟨g14, 1, none⟩ = some (.int .u64 d1) := (blk_cell HR.out 1).trans rfl
          have hr2 : W2.cell? ⟨g14, 2, none⟩ = some (.bool false) := (blk_cell HR.out 2).trans rfl
          have hi5 : W2.cell? ⟨w.heap.size, 5, none⟩ = some (.int .u8 i5) := (blk_cell HI.out 5).trans rfl
          have hi6 : W2.cell? ⟨w.heap.size, 6, none⟩ = some (.int .u64 i6) := (blk_cell HI.out 6).trans rfl
          have hj5 : W2.frozen? ⟨w.heap.size, 5, none⟩ = false := by simp [World.frozen?, HI.out]
          have hj6 : W2.frozen? ⟨w.heap.size, 6, none⟩ = false := by simp [World.frozen?, HI.out]
          have hne1 : ¬ g14 = w.heap.size := by have h1 := HlR.out; omega
          have hne2 : ¬ w.heap.size = g14 := by have h1 := HlR.out; omega
          go_upto_region 17 with fail
          refine do_reg17 ⟨i0, i1, i2, i3, i4, s1, 0, true, at_, i9, i10, i11⟩ #[.int .u64 0, .int .u64 0, .int .i64 0, .int .i64 0, .bool false, .int .u8 0, .int .u64 0, .bool false, .int .u64 0, .bool false, .bool false, .int .u32 0] rfl s1 d1 false a1 w.heap.size (w.heap.size + 1 + 1) g14 w (by omega) (by have h1 := HlR.out; omega) _ _ rfl rfl rfl rfl rfl _ rfl ⟨below_drew ((HB.out.setCell (p := ⟨w.heap.size, 5, none⟩) (Nat.le_refl _) _).setCell (p := ⟨w.heap.size, 6, none⟩) (Nat.le_refl _) _), (heap_setCell_in (heap_setCell_in HI.out 5 _) 6 _).trans rfl, by omega, (heap_setCell_out 6 _ (by omega)).trans ((heap_setCell_out 5 _ (by omega)).trans HO.out), (heap_setCell_out 6 _ hne1).trans ((heap_setCell_out 5 _ hne1).trans HR.out)⟩ ?_
          rintro a W3 L3 hV3 hall3 ⟨hb3, -, -, h10, -⟩
          go_wp2
          simp only [if_true, InV.cells] at h10
          refine bodyPost_ret (res3 rfl ((hV3.keep 10 (by decide)).trans rfl) (run_loadVar_box 34 _ 34 _ _ _ h10 Try.underlying34 rfl (by kernel_rfl))) hV3.defers ⟨?_, hb3⟩
          rw [eval_tmp', eval_tmp', hV3.get 3 rfl (hall3 4 (by decide)), hV3.get 4 rfl (hall3 5 (by decide)), ← HRR.out]
          simp [encDo, InV.val, InV.cells, *]
        · go_upto_region 12 with fail
          refine gen_w (fun W' => W'.heap[w.heap.size]? = some (.cells #[.int .u64 i0, .int .u64 i1, .int .i64 i2, .int .i64 i3, .bool i4, .int .u8 i5, .int .u64 i6, .bool true, .int .u64 at_, .bool i9, .bool i10, .int .u32 i11] 34 (0, 0)) ∧ (∀ k, k ≠ w.heap.size → W'.heap[k]? = W.heap[k]?) ∧ Below w.heap.size w W') ⟨((heap_setCell_in (heap_setCell_in HI.out 7 _) 8 _).trans rfl), (fun k hk => (heap_setCell_out 8 _ hk).trans (heap_setCell_out 7 _ hk)), ((HB.out.setCell (p := ⟨w.heap.size, 7, none⟩) (Nat.le_refl _) _).setCell (p := ⟨w.heap.size, 8, none⟩) (Nat.le_refl _) _)⟩ ?_
          rintro W2 ⟨hI, hk, hB⟩
          have HI := Lib.hid hI
          have HO := Lib.hid ((hk _ (by omega)).trans HO.out)
          have HR := Lib.hid ((hk _ (by have h1 := HlR.out; omega)).trans HR.out)
          have HB := Lib.hid hB
          clear hI hk hB hm7 hm8 hm9 hg7 hg8 hg9
          have hr0 : W2.cell? ⟨g14, 0, none⟩ = some (.int .u8 s1) := (blk_cell HR.out 0).trans rfl
          have hr1 : W2.cell? ⟨g14, 1, none⟩ = some (.int .u64 d1) := (blk_cell HR.out 1).trans rfl
          have hr2 : W2.cell? ⟨g14, 2, none⟩ = some (.bool true) := (blk_cell HR.out 2).trans rfl
          have hi5 : W2.cell? ⟨w.heap.size, 5, none⟩ = some (.int .u8 i5) := (blk_cell HI.out 5).trans rfl
          have hi6 : W2.cell? ⟨w.heap.size, 6, none⟩ = some (.int .u64 i6) := (blk_cell HI.out 6).trans rfl
          have hj5 : W2.frozen? ⟨w.heap.size, 5, none⟩ = false := by simp [World.frozen?, HI.out]
          have hj6 : W2.frozen? ⟨w.heap.size, 6, none⟩ = false := by simp [World.frozen?, HI.out]
          have hne1 : ¬ g14 = w.heap.size := by have h1 := HlR.out; omega
          have hne2 : ¬ w.heap.size = g14 := by have h1 := HlR.out; omega
          go_upto_region 17 with fail
          refine do_reg17 ⟨i0, i1, i2, i3, i4, s1, (IntKind.u64.wrap (now + d1)), true, at_, i9, i10, i11⟩ #[.int .u64 0, .int .u64 0, .int .i64 0, .int .i64 0, .bool false, .int .u8 0, .int .u64 0, .bool false, .int .u64 0, .bool false, .bool false, .int .u32 0] rfl s1 d1 true a1 w.heap.size (w.heap.size + 1 + 1) g14 w (by omega) (by have h1 := HlR.out; omega) _ _ rfl rfl rfl rfl rfl _ rfl ⟨below_drew (((HB.out.setCell (p := ⟨w.heap.size, 5, none⟩) (Nat.le_refl _) _).setCell (p := ⟨w.heap.size, 6, none⟩) (Nat.le_refl _) _).setCell (p := ⟨w.heap.size, 6, none⟩) (Nat.le_refl _) _), (heap_setCell_in (heap_setCell_in (heap_setCell_in HI.out 5 _) 6 _) 6 _).trans rfl, by omega, (heap_setCell_out 6 _ (by omega)).trans ((heap_setCell_out 6 _ (by omega)).trans ((heap_setCell_out 5 _ (by omega)).trans HO.out)), (heap_setCell_out 6 _ hne1).trans ((heap_setCell_out 6 _ hne1).trans ((heap_setCell_out 5 _ hne1).trans HR.out))⟩ ?_
          rintro a W3 L3 hV3 hall3 ⟨hb3, -, -, h10, -⟩
          go_wp2
          simp only [if_true, InV.cells] at h10
          refine bodyPost_ret (res3 rfl ((hV3.keep 10 (by decide)).trans rfl) (run_loadVar_box 34 _ 34 _ _ _ h10 Try.underlying34 rfl (by kernel_rfl))) hV3.defers ⟨?_, hb3⟩
          rw [eval_tmp', eval_tmp', hV3.get 3 rfl (hall3 4 (by decide)), hV3.get 4 rfl (hall3 5 (by decide)), ← HRR.out]
          simp [encDo, InV.val, InV.cells, *]
      · by_cases h3 : what = 3
        · subst h3
          cases t1
          · go_upto_region 12 with fail
            refine gen_w (fun W' => W'.heap[w.heap.size]? = some (.cells #[.int .u64 i0, .int .u64 i1, .int .i64 i2, .int .i64 i3, .bool i4, .int .u8 i5, .int .u64 i6, .bool i7, .int .u64 i8, .bool true, .bool i10, .int .u32 i11] 34 (0, 0)) ∧ (∀ k, k ≠ w.heap.size → W'.heap[k]? = W.heap[k]?) ∧ Below w.heap.size w W') ⟨((heap_setCell_in HI.out 9 _).trans rfl), (fun k hk => heap_setCell_out 9 _ hk), (HB.out.setCell (p := ⟨w.heap.size, 9, none⟩) (Nat.le_refl _) _)⟩ ?_
            rintro W2 ⟨hI, hk, hB⟩
            have HI := Lib.hid hI
            have HO := Lib.hid ((hk _ (by omega)).trans HO.out)
            have HR := Lib.hid ((hk _ (by have h1 := HlR.out; omega)).trans HR.out)
            have HB := Lib.hid hB
            clear hI hk hB hm7 hm8 hm9 hg7 hg8 hg9
            have hr0 : W2.cell? ⟨g14, 0, none⟩ = some (.int .u8 s1) := (blk_cell HR.out 0).trans rfl
            have hr1 : W2.cell? ⟨g14, 1, none⟩ = some (.int .u64 d1) := (blk_cell HR.out 1).trans rfl
            have hr2 : W2.cell? ⟨g14, 2, none⟩ = some (.bool false) := (blk_cell HR.out 2).trans rfl
            have hi5 : W2.cell? ⟨w.heap.size, 5, none⟩ = some (.int .u8 i5) := (blk_cell HI.out 5).trans rfl
            have hi6 : W2.cell? ⟨w.heap.size, 6, none⟩ = some (.int .u64 i6) := (blk_cell HI.out 6).trans rfl
            have hj5 : W2.frozen? ⟨w.heap.size, 5, none⟩ = false := by simp [World.frozen?, HI.out]
            have hj6 : W2.frozen? ⟨w.heap.size, 6, none⟩ = false := by simp [World.frozen?, HI.out]
            have hne1 : ¬ g14 = w.heap.size := by have h1 := HlR.out; omega
            have hne2 : ¬ w.heap.size = g14 := by have h1 := HlR.out; omega
            go_upto_region 17 with fail
            refine do_reg17 ⟨i0, i1, i2, i3, i4, s1, 0, i7, i8, true, i10, i11⟩ #[.int .u64 0, .int .u64 0, .int .i64 0, .int .i64 0, .bool false, .int .u8 0, .int .u64 0, .bool false, .int .u64 0, .bool false, .bool false, .int .u32 0] rfl s1 d1 false a1 w.heap.size (w.heap.size + 1 + 1) g14 w (by omega) (by have h1 := HlR.out; omega) _ _ rfl rfl rfl rfl rfl _ rfl ⟨below_drew ((HB.out.setCell (p := ⟨w.heap.size, 5, none⟩) (Nat.le_refl _) _).setCell (p := ⟨w.heap.size, 6, none⟩) (Nat.le_refl _) _), (heap_setCell_in (heap_setCell_in HI.out 5 _) 6 _).trans rfl, by omega, (heap_setCell_out 6 _ (by omega)).trans ((heap_setCell_out 5 _ (by omega)).trans HO.out), (heap_setCell_out 6 _ hne1).trans ((heap_setCell_out 5 _ hne1).trans HR.out)⟩ ?_
            rintro a W3 L3 hV3 hall3 ⟨hb3, -, -, h10, -⟩
            go_wp2
            simp only [if_true, InV.cells] at h10
            refine bodyPost_ret (res3 rfl ((hV3.keep 10 (by decide)).trans rfl) (run_loadVar_box 34 _ 34 _ _ _ h10 Try.underlying34 rfl (by kernel_rfl))) hV3.defers ⟨?_, hb3⟩
            rw [eval_tmp', eval_tmp', hV3.get 3 rfl (hall3 4 (by decide)), hV3.get 4 rfl (hall3 5 (by decide)), ← HRR.out]
            simp [encDo, InV.val, InV.cells, *]
          · go_upto_region 12 with fail
            refine gen_w (fun W' => W'.heap[w.heap.size]? = some (.cells #[.int .u64 i0, .int .u64 i1, .int .i64 i2, .int .i64 i3, .bool i4, .int .u8 i5, .int .u64 i6, .bool i7, .int .u64 i8, .bool true, .bool i10, .int .u32 i11] 34 (0, 0)) ∧ (∀ k, k ≠ w.heap.size → W'.heap[k]? = W.heap[k]?) ∧ Below w.heap.size w W') ⟨((heap_setCell_in HI.out 9 _).trans rfl), (fun k hk => heap_setCell_out 9 _ hk), (HB.out.setCell (p := ⟨w.heap.size, 9, none⟩) (Nat.le_refl _) _)⟩ ?_
            rintro W2 ⟨hI, hk, hB⟩
            have HI := Lib.hid hI
            have HO := Lib.hid ((hk _ (by omega)).trans HO.out)
            have HR := Lib.hid ((hk _ (by have h1 := HlR.out; omega)).trans HR.out)
            have HB := Lib.hid hB
            clear hI hk hB hm7 hm8 hm9 hg7 hg8 hg9
            have hr0 : W2.cell? ⟨g14, 0, none⟩ = some (.int .u8 s1) := (blk_cell HR.out 0).trans rfl
            have hr1 : W2.cell? ⟨g14, 1, none⟩ = some (.int .u64 d1) := (blk_cell HR.out 1).trans rfl
            have hr2 : W2.cell? ⟨g14, 2, none⟩ = some (.bool true) := (blk_cell HR.out 2).trans rfl
            have hi5 : W2.cell? ⟨w.heap.size, 5, none⟩ = some (.int .u8 i5) := (blk_cell HI.out 5).trans rfl
            have hi6 : W2.cell? ⟨w.heap.size, 6, none⟩ = some (.int .u64 i6) := (blk_cell HI.out 6).trans rfl
            have hj5 : W2.frozen? ⟨w.heap.size, 5, none⟩ = false := by simp [World.frozen?, HI.out]
            have hj6 : W2.frozen? ⟨w.heap.size, 6, none⟩ = false := by simp [World.frozen?, HI.out]
            have hne1 : ¬ g14 = w.heap.size := by have h1 := HlR.out; omega
            have hne2 : ¬ w.heap.size = g14 := by have h1 := HlR.out; omega
            go_upto_region 17 with fail
            refine do_reg17 ⟨i0, i1, i2, i3, i4, s1, (IntKind.u64.wrap (now + d1)), i7, i8, true, i10, i11⟩ #[.int .u64 0, .int .u64 0, .int .i64 0, .int .i64 0, .bool false, .int .u8 0, .int .u64 0, .bool false, .int .u64 0, .bool false, .bool false, .int .u32 0] rfl s1 d1 true a1 w.heap.size (w.heap.size + 1 + 1) g14 w (by omega) (by have h1 := HlR.out; omega) _ _ rfl rfl rfl rfl rfl _ rfl ⟨below_drew (((HB.out.setCell (p := ⟨w.heap.size, 5, none⟩) (Nat.le_refl _) _).setCell (p := ⟨w.heap.size, 6, none⟩) (Nat.le_refl _) _).setCell (p := ⟨w.heap.size, 6, none⟩) (Nat.le_refl _) _), (heap_setCell_in (heap_setCell_in (heap_setCell_in HI.out 5 _) 6 _) 6 _).trans rfl, by omega, (heap_setCell_out 6 _ (by omega)).trans ((heap_setCell_out 6 _ (by omega)).trans ((heap_setCell_out 5 _ (by omega)).trans HO.out)), (heap_setCell_out 6 _ hne1).trans ((heap_setCell_out 6 _ hne1).trans ((heap_setCell_out 5 _ hne1).trans HR.out))⟩ ?_
            rintro a W3 L3 hV3 hall3 ⟨hb3, -, -, h10, -⟩
            go_wp2
            simp only [if_true, InV.cells] at h10
            refine bodyPost_ret (res3 rfl ((hV3.keep 10 (by decide)).trans rfl) (run_loadVar_box 34 _ 34 _ _ _ h10 Try.underlying34 rfl (by kernel_rfl))) hV3.defers ⟨?_, hb3⟩
            rw [eval_tmp', eval_tmp', hV3.get 3 rfl (hall3 4 (by decide)), hV3.get 4 rfl (hall3 5 (by decide)), ← HRR.out]
            simp [encDo, InV.val, InV.cells, *]
        · cases t1
          · go_upto_region 12 with fail
            refine gen_w (fun W' => W'.heap[w.heap.size]? = some (.cells #[.int .u64 i0, .int .u64 i1, .int .i64 i2, .int .i64 i3, .bool i4, .int .u8 i5, .int .u64 i6, .bool i7, .int .u64 i8, .bool i9, .bool i10, .int .u32 i11] 34 (0, 0)) ∧ (∀ k, k ≠ w.heap.size → W'.heap[k]? = W.heap[k]?) ∧ Below w.heap.size w W') ⟨HI.out, (fun k hk => rfl), HB.out⟩ ?_
            rintro W2 ⟨hI, hk, hB⟩
            have HI := Lib.hid hI
            have HO := Lib.hid ((hk _ (by omega)).trans HO.out)
            have HR := Lib.hid ((hk _ (by have h1 := HlR.out; omega)).trans HR.out)
            have HB := Lib.hid hB
            clear hI hk hB hm7 hm8 hm9 hg7 hg8 hg9
            have hr0 : W2.cell? ⟨g14, 0, none⟩ = some (.int .u8 s1) := (blk_cell HR.out 0).trans rfl
            have hr1 : W2.cell? ⟨g14, 1, none⟩ = some (.int .u64 d1) := (blk_cell HR.out 1).trans rfl
            have hr2 : W2.cell? ⟨g14, 2, none⟩ = some (.bool false) := (blk_cell HR.out 2).trans rfl
            have hi5 : W2.cell? ⟨w.heap.size, 5, none⟩ = some (.int .u8 i5) := (blk_cell HI.out 5).trans rfl
            have hi6 : W2.cell? ⟨w.heap.size, 6, none⟩ = some (.int .u64 i6) := (blk_cell HI.out 6).trans rfl
            have hj5 : W2.frozen? ⟨w.heap.size, 5, none⟩ = false := by simp [World.frozen?, HI.out]
            have hj6 : W2.frozen? ⟨w.heap.size, 6, none⟩ = false := by simp [World.frozen?, HI.out]
            have hne1 : ¬ g14 = w.heap.size := by have h1 := HlR.out; omega
            have hne2 : ¬ w.heap.size = g14 := by have h1 := HlR.out; omega
            go_upto_region 17 with fail
            refine do_reg17 ⟨i0, i1, i2, i3, i4, s1, 0, i7, i8, i9, i10, i11⟩ #[.int .u64 0, .int .u64 0, .int .i64 0, .int .i64 0, .bool false, .int .u8 0, .int .u64 0, .bool false, .int .u64 0, .bool false, .bool false, .int .u32 0] rfl s1 d1 false a1 w.heap.size (w.heap.size + 1 + 1) g14 w (by omega) (by have h1 := HlR.out; omega) _ _ rfl rfl rfl rfl rfl _ rfl ⟨below_drew ((HB.out.setCell (p := ⟨w.heap.size, 5, none⟩) (Nat.le_refl _) _).setCell (p := ⟨w.heap.size, 6, none⟩) (Nat.le_refl _) _), (heap_setCell_in (heap_setCell_in HI.out 5 _) 6 _).trans rfl, by omega, (heap_setCell_out 6 _ (by omega)).trans ((heap_setCell_out 5 _ (by omega)).trans HO.out), (heap_setCell_out 6 _ hne1).trans ((heap_setCell_out 5 _ hne1).trans HR.out)⟩ ?_
            rintro a W3 L3 hV3 hall3 ⟨hb3, -, -, h10, -⟩
            go_wp2
            simp only [if_true, InV.cells] at h10
            refine bodyPost_ret (res3 rfl ((hV3.keep 10 (by decide)).trans rfl) (run_loadVar_box 34 _ 34 _ _ _ h10 Try.underlying34 rfl (by kernel_rfl))) hV3.defers ⟨?_, hb3⟩
            rw [eval_tmp', eval_tmp', hV3.get 3 rfl (hall3 4 (by decide)), hV3.get 4 rfl (hall3 5 (by decide)), ← HRR.out]
            simp [encDo, InV.val, InV.cells, *]
          · go_upto_region 12 with fail
            refine gen_w (fun W' => W'.heap[w.heap.size]? = some (.cells #[.int .u64 i0, .int .u64 i1, .int .i64 i2, .int .i64 i3, .bool i4, .int .u8 i5, .int .u64 i6, .bool i7, .int .u64 i8, .bool i9, .bool i10, .int .u32 i11] 34 (0, 0)) ∧ (∀ k, k ≠ w.heap.size → W'.heap[k]? = W.heap[k]?) ∧ Below w.heap.size w W') ⟨HI.out, (fun k hk => rfl), HB.out⟩ ?_
            rintro W2 ⟨hI, hk, hB⟩
            have HI := Lib.hid hI
            have HO := Lib.hid ((hk _ (by omega)).trans HO.out)
            have HR := Lib.hid ((hk _ (by have h1 := HlR.out; omega)).trans HR.out)
            have HB := Lib.hid hB
            clear hI hk hB hm7 hm8 hm9 hg7 hg8 hg9
            have hr0 : W2.cell? ⟨g14, 0, none⟩ = some (.int .u8 s1) := (blk_cell HR.out 0).trans rfl
            have hr1 : W2.cell? ⟨g14, 1, none⟩ = some (.int .u64 d1) := (blk_cell HR.out 1).trans rfl
            have hr2 : W2.cell? ⟨g14, 2, none⟩ = some (.bool true) := (blk_cell HR.out 2).trans rfl
            have hi5 : W2.cell? ⟨w.heap.size, 5, none⟩ = some (.int .u8 i5) := (blk_cell HI.out 5).trans rfl
            have hi6 : W2.cell? ⟨w.heap.size, 6, none⟩ = some (.int .u64 i6) := (blk_cell HI.out 6).trans rfl
            have hj5 : W2.frozen? ⟨w.heap.size, 5, none⟩ = false := by simp [World.frozen?, HI.out]
            have hj6 : W2.frozen? ⟨w.heap.size, 6, none⟩ = false := by simp [World.frozen?, HI.out]
            have hne1 : ¬ g14 = w.heap.size := by have h1 := HlR.out; omega
            have hne2 : ¬ w.heap.size = g14 := by have h1 := HlR.out; omega
            go_upto_region 17 with fail
            refine do_reg17 ⟨i0, i1, i2, i3, i4, s1, (IntKind.u64.wrap (now + d1)), i7, i8, i9, i10, i11⟩ #[.int .u64 0, .int .u64 0, .int .i64 0, .int .i64 0, .bool false, .int .u8 0, .int .u64 0, .bool false, .int .u64 0, .bool false, .bool false, .int .u32 0] rfl s1 d1 true a1 w.heap.size (w.heap.size + 1 + 1) g14 w (by omega) (by have h1 := HlR.out; omega) _ _ rfl rfl rfl rfl rfl _ rfl ⟨below_drew (((HB.out.setCell (p := ⟨w.heap.size, 5, none⟩) (Nat.le_refl _) _).setCell (p := ⟨w.heap.size, 6, none⟩) (Nat.le_refl _) _).setCell (p := ⟨w.heap.size, 6, none⟩) (Nat.le_refl _) _), (heap_setCell_in (heap_setCell_in (heap_setCell_in HI.out 5 _) 6 _) 6 _).trans rfl, by omega, (heap_setCell_out 6 _ (by omega)).trans ((heap_setCell_out 6 _ (by omega)).trans ((heap_setCell_out 5 _ (by omega)).trans HO.out)), (heap_setCell_out 6 _ hne1).trans ((heap_setCell_out 6 _ hne1).trans ((heap_setCell_out 5 _ hne1).trans HR.out))⟩ ?_
            rintro a W3 L3 hV3 hall3 ⟨hb3, -, -, h10, -⟩
            go_wp2
            simp only [if_true, InV.cells] at h10
            refine bodyPost_ret (res3 rfl ((hV3.keep 10 (by decide)).trans rfl) (run_loadVar_box 34 _ 34 _ _ _ h10 Try.underlying34 rfl (by kernel_rfl))) hV3.defers ⟨?_, hb3⟩
            rw [eval_tmp', eval_tmp', hV3.get 3 rfl (hall3 4 (by decide)), hV3.get 4 rfl (hall3 5 (by decide)), ← HRR.out]
            simp [encDo, InV.val, InV.cells, *]

  · by_cases h2 : what = 2
    · subst h2
      go_upto_region 12 with fail
      refine gen_w (fun W' => W'.heap[w.heap.size]? = some (.cells #[.int .u64 i0, .int .u64 i1, .int .i64 i2, .int .i64 i3, .bool i4, .int .u8 i5, .int .u64 i6, .bool true, .int .u64 at_, .bool i9, .bool i10, .int .u32 i11] 34 (0, 0)) ∧ (∀ k, k ≠ w.heap.size → W'.heap[k]? = W.heap[k]?) ∧ Below w.heap.size w W') ⟨((heap_setCell_in (heap_setCell_in HI.out 7 _) 8 _).trans rfl), (fun k hk => (heap_setCell_out 8 _ hk).trans (heap_setCell_out 7 _ hk)), ((HB.out.setCell (p := ⟨w.heap.size, 7, none⟩) (Nat.le_refl _) _).setCell (p := ⟨w.heap.size, 8, none⟩) (Nat.le_refl _) _)⟩ ?_
      rintro W2 ⟨hI, hk, hB⟩
      have HI := Lib.hid hI
      have HO := Lib.hid ((hk _ (by omega)).trans HO.out)
      have HR := Lib.hid ((hk _ (by have h1 := HlR.out; omega)).trans HR.out)
      have HB := Lib.hid hB
      clear hI hk hB hm7 hm8 hm9 hg7 hg8 hg9
      go_wp2_with (first | ((with_reducible refine gate_load 34 rfl ?_); refine wpList_load_row rfl 34 _ rfl _ rfl 34 _ _ _ (by exact HI.out) Try.underlying34 rfl (by kernel_rfl) ?_) | ((with_reducible refine gate_load 41 rfl ?_); refine wpList_load_row rfl 41 _ rfl _ rfl 41 _ _ _ (by exact HC.out) Try.underlying41 rfl (by kernel_rfl) ?_) | ((with_reducible refine gate_storeT 34 rfl ?_); refine bx_row rfl 34 _ _ rfl _ rfl _ rfl 34 _ HO.out (by kernel_rfl) rfl (by simp [Value.oneCell']) HB.out (by omega) ?_; intro W2 hr hsz hk hb2; have HO := Lib.hid hr; have HB := Lib.hid hb2; clear hr hk hb2) | ((with_reducible refine gate_storeT 4 rfl ?_); refine bx_store1 rfl 4 _ _ rfl _ _ rfl _ rfl 34 _ HI.out (by kernel_rfl) (by simp) rfl _ (by simp only [List.setIfInBounds_toArray, List.set_cons_succ, List.set_cons_zero]) HB.out (by omega) ?_; intro W2 hr hsz hk hb2; have HC := Lib.hid ((hk _ (by omega)).trans HC.out); have HO := Lib.hid ((hk _ (by omega)).trans HO.out); have HR := Lib.hid ((hk _ (by have h1 := HlR.out; omega)).trans HR.out); have HI := Lib.hid hr; have HB := Lib.hid hb2; clear hr hk hb2) | ((with_reducible refine gate_storeT 31 rfl ?_); refine bx_store1 rfl 31 _ _ rfl _ _ rfl _ rfl 34 _ HI.out (by kernel_rfl) (by simp) rfl _ (by simp only [List.setIfInBounds_toArray, List.set_cons_succ, List.set_cons_zero]) HB.out (by omega) ?_; intro W2 hr hsz hk hb2; have HC := Lib.hid ((hk _ (by omega)).trans HC.out); have HO := Lib.hid ((hk _ (by omega)).trans HO.out); have HR := Lib.hid ((hk _ (by have h1 := HlR.out; omega)).trans HR.out); have HI := Lib.hid hr; have HB := Lib.hid hb2; clear hr hk hb2) | ((with_reducible refine gate_storeT 5 rfl ?_); refine bx_store1 rfl 5 _ _ rfl _ _ rfl _ rfl 34 _ HI.out (by kernel_rfl) (by simp) rfl _ (by simp only [List.setIfInBounds_toArray, List.set_cons_succ, List.set_cons_zero]) HB.out (by omega) ?_; intro W2 hr hsz hk hb2; have HC := Lib.hid ((hk _ (by omega)).trans HC.out); have HO := Lib.hid ((hk _ (by omega)).trans HO.out); have HR := Lib.hid ((hk _ (by have h1 := HlR.out; omega)).trans HR.out); have HI := Lib.hid hr; have HB := Lib.hid hb2; clear hr hk hb2))
      all_goals (refine bodyPost_ret (res3 rfl rfl (run_loadVar_box 34 _ 34 _ _ _ HO.out Try.underlying34 rfl (by kernel_rfl))) rfl ⟨?_, HB.out⟩; rw [← HRR.out]; simp [encDo, InV.val, InV.cells, *])
    · by_cases h3 : what = 3
      · subst h3
        go_upto_region 12 with fail
        refine gen_w (fun W' => W'.heap[w.heap.size]? = some (.cells #[.int .u64 i0, .int .u64 i1, .int .i64 i2, .int .i64 i3, .bool i4, .int .u8 i5, .int .u64 i6, .bool i7, .int .u64 i8, .bool true, .bool i10, .int .u32 i11] 34 (0, 0)) ∧ (∀ k, k ≠ w.heap.size → W'.heap[k]? = W.heap[k]?) ∧ Below w.heap.size w W') ⟨((heap_setCell_in HI.out 9 _).trans rfl), (fun k hk => heap_setCell_out 9 _ hk), (HB.out.setCell (p := ⟨w.heap.size, 9, none⟩) (Nat.le_refl _) _)⟩ ?_
        rintro W2 ⟨hI, hk, hB⟩
        have HI := Lib.hid hI
        have HO := Lib.hid ((hk _ (by omega)).trans HO.out)
        have HR := Lib.hid ((hk _ (by have h1 := HlR.out; omega)).trans HR.out)
        have HB := Lib.hid hB
        clear hI hk hB hm7 hm8 hm9 hg7 hg8 hg9
        go_wp2_with (first | ((with_reducible refine gate_load 34 rfl ?_); refine wpList_load_row rfl 34 _ rfl _ rfl 34 _ _ _ (by exact HI.out) Try.underlying34 rfl (by kernel_rfl) ?_) | ((with_reducible refine gate_load 41 rfl ?_); refine wpList_load_row rfl 41 _ rfl _ rfl 41 _ _ _ (by exact HC.out) Try.underlying41 rfl (by kernel_rfl) ?_) | ((with_reducible refine gate_storeT 34 rfl ?_); refine bx_row rfl 34 _ _ rfl _ rfl _ rfl 34 _ HO.out (by kernel_rfl) rfl (by simp [Value.oneCell']) HB.out (by omega) ?_; intro W2 hr hsz hk hb2; have HO := Lib.hid hr; have HB := Lib.hid hb2; clear hr hk hb2) | ((with_reducible refine gate_storeT 4 rfl ?_); refine bx_store1 rfl 4 _ _ rfl _ _ rfl _ rfl 34 _ HI.out (by kernel_rfl) (by simp) rfl _ (by simp only [List.setIfInBounds_toArray, List.set_cons_succ, List.set_cons_zero]) HB.out (by omega) ?_; intro W2 hr hsz hk hb2; have HC := Lib.hid ((hk _ (by omega)).trans HC.out); have HO := Lib.hid ((hk _ (by omega)).trans HO.out); have HR := Lib.hid ((hk _ (by have h1 := HlR.out; omega)).trans HR.out); have HI := Lib.hid hr; have HB := Lib.hid hb2; clear hr hk hb2) | ((with_reducible refine gate_storeT 31 rfl ?_); refine bx_store1 rfl 31 _ _ rfl _ _ rfl _ rfl 34 _ HI.out (by kernel_rfl) (by simp) rfl _ (by simp only [List.setIfInBounds_toArray, List.set_cons_succ, List.set_cons_zero]) HB.out (by omega) ?_; intro W2 hr hsz hk hb2; have HC := Lib.hid ((hk _ (by omega)).trans HC.out); have HO := Lib.hid ((hk _ (by omega)).trans HO.out); have HR := Lib.hid ((hk _ (by have h1 := HlR.out; omega)).trans HR.out); have HI := Lib.hid hr; have HB := Lib.hid hb2; clear hr hk hb2) | ((with_reducible refine gate_storeT 5 rfl ?_); refine bx_store1 rfl 5 _ _ rfl _ _ rfl _ rfl 34 _ HI.out (by kernel_rfl) (by simp) rfl _ (by simp only [List.setIfInBounds_toArray, List.set_cons_succ, List.set_cons_zero]) HB.out (by omega) ?_; intro W2 hr hsz hk hb2; have HC := Lib.hid ((hk _ (by omega)).trans HC.out); have HO := Lib.hid ((hk _ (by omega)).trans HO.out); have HR := Lib.hid ((hk _ (by have h1 := HlR.out; omega)).trans HR.out); have HI := Lib.hid hr; have HB := Lib.hid hb2; clear hr hk hb2))
        all_goals (refine bodyPost_ret (res3 rfl rfl (run_loadVar_box 34 _ 34 _ _ _ HO.out Try.underlying34 rfl (by kernel_rfl))) rfl ⟨?_, HB.out⟩; rw [← HRR.out]; simp [encDo, InV.val, InV.cells, *])
      · go_upto_region 12 with fail
        refine gen_w (fun W' => W'.heap[w.heap.size]? = some (.cells #[.int .u64 i0, .int .u64 i1, .int .i64 i2, .int .i64 i3, .bool i4, .int .u8 i5, .int .u64 i6, .bool i7, .int .u64 i8, .bool i9, .bool i10, .int .u32 i11] 34 (0, 0)) ∧ (∀ k, k ≠ w.heap.size → W'.heap[k]? = W.heap[k]?) ∧ Below w.heap.size w W') ⟨HI.out, (fun k hk => rfl), HB.out⟩ ?_
        rintro W2 ⟨hI, hk, hB⟩
        have HI := Lib.hid hI
        have HO := Lib.hid ((hk _ (by omega)).trans HO.out)
        have HR := Lib.hid ((hk _ (by have h1 := HlR.out; omega)).trans HR.out)
        have HB := Lib.hid hB
        clear hI hk hB hm7 hm8 hm9 hg7 hg8 hg9
        go_wp2_with (first | ((with_reducible refine gate_load 34 rfl ?_); refine wpList_load_row rfl 34 _ rfl _ rfl 34 _ _ _ (by exact HI.out) Try.underlying34 rfl (by kernel_rfl) ?_) | ((with_reducible refine gate_load 41 rfl ?_); refine wpList_load_row rfl 41 _ rfl _ rfl 41 _ _ _ (by exact HC.out) Try.underlying41 rfl (by kernel_rfl) ?_) | ((with_reducible refine gate_storeT 34 rfl ?_); refine bx_row rfl 34 _ _ rfl _ rfl _ rfl 34 _ HO.out (by kernel_rfl) rfl (by simp [Value.oneCell']) HB.out (by omega) ?_; intro W2 hr hsz hk hb2; have HO := Lib.hid hr; have HB := Lib.hid hb2; clear hr hk hb2) | ((with_reducible refine gate_storeT 4 rfl ?_); refine bx_store1 rfl 4 _ _ rfl _ _ rfl _ rfl 34 _ HI.out (by kernel_rfl) (by simp) rfl _ (by simp only [List.setIfInBounds_toArray, List.set_cons_succ, List.set_cons_zero]) HB.out (by omega) ?_; intro W2 hr hsz hk hb2; have HC := Lib.hid ((hk _ (by omega)).trans HC.out); have HO := Lib.hid ((hk _ (by omega)).trans HO.out); have HR := Lib.hid ((hk _ (by have h1 := HlR.out; omega)).trans HR.out); have HI := Lib.hid hr; have HB := Lib.hid hb2; clear hr hk hb2) | ((with_reducible refine gate_storeT 31 rfl ?_); refine bx_store1 rfl 31 _ _ rfl _ _ rfl _ rfl 34 _ HI.out (by kernel_rfl) (by simp) rfl _ (by simp only [List.setIfInBounds_toArray, List.set_cons_succ, List.set_cons_zero]) HB.out (by omega) ?_; intro W2 hr hsz hk hb2; have HC := Lib.hid ((hk _ (by omega)).trans HC.out); have HO := Lib.hid ((hk _ (by omega)).trans HO.out); have HR := Lib.hid ((hk _ (by have h1 := HlR.out; omega)).trans HR.out); have HI := Lib.hid hr; have HB := Lib.hid hb2; clear hr hk hb2) | ((with_reducible refine gate_storeT 5 rfl ?_); refine bx_store1 rfl 5 _ _ rfl _ _ rfl _ rfl 34 _ HI.out (by kernel_rfl) (by simp) rfl _ (by simp only [List.setIfInBounds_toArray, List.set_cons_succ, List.set_cons_zero]) HB.out (by omega) ?_; intro W2 hr hsz hk hb2; have HC := Lib.hid ((hk _ (by omega)).trans HC.out); have HO := Lib.hid ((hk _ (by omega)).trans HO.out); have HR := Lib.hid ((hk _ (by have h1 := HlR.out; omega)).trans HR.out); have HI := Lib.hid hr; have HB := Lib.hid hb2; clear hr hk hb2))
        all_goals (refine bodyPost_ret (res3 rfl rfl (run_loadVar_box 34 _ 34 _ _ _ HO.out Try.underlying34 rfl (by kernel_rfl))) rfl ⟨?_, HB.out⟩; rw [← HRR.out]; simp [encDo, InV.val, InV.cells, *])

end Go.Proofs.Ytaoflcmjmhfblaa.I
