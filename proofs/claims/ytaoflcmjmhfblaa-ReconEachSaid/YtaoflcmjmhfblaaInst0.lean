/- Instances as values: how they are read, whether they may be (out of XState, XInsts and others: gen_inst0.py). -/
import Derived.Test.YtaoflcmjmhfblaaRow
import Derived.Deep.MidRow
import Derived.Sort.Grow
import Derived.Lib.OwnBridge
import Derived.Lib.AppendIntMem
import Derived.Shelf.SlSortCmp.QuietGrown
import Derived.Shelf.GgSortFunc.SW
import Derived.Sort.AtCall
namespace Go.Proofs.Ytaoflcmjmhfblaa.H
open Go.RowKit Go.Proofs.YtaoflcmjmhfblaaW.PrintWords Go.Proofs.YtaoflcmjmhfblaaW.PrintLast Go.Proofs.YtaoflcmjmhfblaaW.PrintMore
set_option linter.unusedVariables false
set_option linter.unusedSimpArgs false
/-- The block g of the world w holds the record cs. -/
def Boxd (w : World) (g t : Nat) (cs : Array Value) : Prop := w.heap[g]? = some (.cells cs t (0, 0))
theorem Boxd.new (w : World) (t : Nat) (cs : Array Value) : Boxd (w.alloc (.cells cs t)) w.heap.size t cs := heap_alloc_new _ _
theorem Boxd.lt {w : World} {g t : Nat} {cs : Array Value} (h : Boxd w g t cs) : g < w.heap.size := by
  rcases Nat.lt_or_ge g w.heap.size with q | q
  · exact q
  · unfold Boxd at h; rw [Array.getElem?_eq_none q] at h; cases h
theorem Boxd.cell {w : World} {g t : Nat} {cs : Array Value} (h : Boxd w g t cs) {k : Nat} {v : Value} (hv : cs[k]? = some v) : w.cell? ⟨g, k, none⟩ = some v := by
  unfold Boxd at h
  simp [World.cell?, h, hv]
theorem Boxd.below {w w' : World} {g t : Nat} {cs : Array Value} (h : Boxd w g t cs) (hb : Below w.heap.size w w') : Boxd w' g t cs := (hb.block g h.lt).trans h
/-- A record of the whole block g is loaded. -/
theorem Boxd.load {P : Program} {w : World} {g t ty : Nat} {cs : Array Value} {d : TypeDesc} (h : Boxd w g t cs) (hu : P.underlying ty = some d) (hd : d.isRow = true) (hi : (P.info? ty).map (·.size) = some cs.size) :
    (Instr.loadAt ty (.pointer (some ⟨g, 0, none⟩))).run P w = .ok (.agg cs) w := by
  have := run_loadAt_mid (P := P) w g 0 ty cs.toList d (fun j v hv => by rw [Nat.zero_add]; exact h.cell (by simpa using hv)) hu hd (by simpa using hi)
  simpa using this
/-- A world that has some blocks more. -/
def Grw (w w' : World) : Prop := ∃ os, w' = Go.Sort.grow w os
theorem Grw.refl (w : World) : Grw w w := ⟨#[], (Go.Sort.grow_empty w).symm⟩
theorem Grw.alloc {w w' : World} (h : Grw w w') (o : Obj) : Grw w (w'.alloc o) := by
  obtain ⟨os, rfl⟩ := h
  exact ⟨os ++ #[o], by rw [Go.Sort.alloc_eq_grow, Go.Sort.grow_grow]⟩
theorem Grw.trans {w w1 w2 : World} (h : Grw w w1) (h2 : Grw w1 w2) : Grw w w2 := by
  obtain ⟨os, rfl⟩ := h
  obtain ⟨os2, rfl⟩ := h2
  exact ⟨os ++ os2, by rw [Go.Sort.grow_grow]⟩
theorem Grw.below {w w' : World} (h : Grw w w') : Below w.heap.size w w' := by
  obtain ⟨os, rfl⟩ := h
  exact Go.Lib.below_grow w.heap.size w (Nat.le_refl _) 0 os
theorem Grw.quiet {P : Program} {f : FuncId} {args : Array Value} {w : World} {v : Value} (h : Calls P f args w fun e w' => e = .returned v ∧ Grw w w') : Calls P f args w fun e w' => e = .returned v ∧ ∃ q os', w' = Go.Sort.grow (w.drewN q) os' :=
  h.mono fun _ _ ⟨he, os, hw⟩ => ⟨he, 0, os, hw⟩
/-- An instance. -/
structure InV where
  id : Int
  token : Int
  pool : Int
  weight : Int
  spot : Bool
  state : Int
  due : Int
  noticed : Bool
  kill : Int
  risk : Bool
  held : Bool
  version : Int
def InV.cells (i : InV) : Array Value := #[.int .u64 i.id, .int .u64 i.token, .int .i64 i.pool, .int .i64 i.weight, .bool i.spot, .int .u8 i.state, .int .u64 i.due, .bool i.noticed, .int .u64 i.kill, .bool i.risk, .bool i.held, .int .u32 i.version]
def InV.val (i : InV) : Value := .agg i.cells
def instMay (i : InV) : Bool := !(decide (i.id < 1) || decide (4611686018427387904 < i.id) || decide (4611686018427387904 < i.token)) && !(decide (i.pool < 0) || decide (64 ≤ i.pool) || decide (i.weight < 1) || decide (100 < i.weight)) && !(decide (i.state < 1) || decide (9 < i.state)) && (decide (i.due ≤ 1099511758848) && decide (i.kill ≤ 1099511758848) && (i.noticed || i.kill == 0))
set_option maxHeartbeats 1000000 in
set_option maxRecDepth 100000 in
theorem instMay_calls (i : InV) (w : World) : Calls Try.prog 20 #[i.val] w fun e w' => e = .returned (.bool (instMay i)) ∧ Grw w w' := by
  obtain ⟨i0, i1, i2, i3, i4, i5, i6, i7, i8, i9, i10, i11⟩ := i
  obtain ⟨r, hr⟩ : ∃ r, instMay ⟨i0, i1, i2, i3, i4, i5, i6, i7, i8, i9, i10, i11⟩ = r := ⟨_, rfl⟩
  rw [hr]
  have HR := Lib.hid hr
  clear hr
  simp only [InV.val, InV.cells]
  go_enter Try.func20, Try.ntmps20
  go_wp2_with (fail)
  all_goals (go_ret; exact ⟨ret_b (by rw [← HR.out]; simp [instMay, *] <;> (intros; exfalso; omega)), (Grw.refl _).alloc _⟩)
set_option maxHeartbeats 1000000 in
set_option maxRecDepth 100000 in
theorem rinstMay_calls (i : InV) (w : World) : Calls Try.prog 70 #[i.val] w fun e w' => e = .returned (.bool (instMay i)) ∧ Grw w w' := by
  obtain ⟨i0, i1, i2, i3, i4, i5, i6, i7, i8, i9, i10, i11⟩ := i
  obtain ⟨r, hr⟩ : ∃ r, instMay ⟨i0, i1, i2, i3, i4, i5, i6, i7, i8, i9, i10, i11⟩ = r := ⟨_, rfl⟩
  rw [hr]
  have HR := Lib.hid hr
  clear hr
  simp only [InV.val, InV.cells]
  go_enter Try.func70, Try.ntmps70
  go_wp2_with (fail)
  all_goals (go_ret; exact ⟨ret_b (by rw [← HR.out]; simp [instMay, *] <;> (intros; exfalso; omega)), (Grw.refl _).alloc _⟩)
def kInst0 := Kd.pair (Kd.int .u64) (Kd.pair (Kd.int .u64) (Kd.pair (Kd.int .i64) (Kd.pair (Kd.int .i64) (Kd.pair Kd.bool (Kd.pair (Kd.int .u8) (Kd.pair (Kd.int .u64) (Kd.pair Kd.bool (Kd.pair (Kd.int .u64) (Kd.pair Kd.bool (Kd.pair Kd.bool (Kd.int .u32)))))))))))
def kInst : Kd InV := Kd.iso kInst0 (fun i => (i.id, i.token, i.pool, i.weight, i.spot, i.state, i.due, i.noticed, i.kill, i.risk, i.held, i.version))
/-- A call's ending tells whether P. -/
def RetB (e : Ending) (P : Prop) : Prop := ∃ b, e = .returned (.bool b) ∧ (b = true ↔ P)
theorem RetB.f {e : Ending} {P : Prop} (he : e = .returned (.bool false)) (h : ¬ P) : RetB e P := ⟨false, he, ⟨fun hf => absurd hf (by simp), fun hp => absurd hp h⟩⟩
theorem RetB.t {e : Ending} {P : Prop} (he : e = .returned (.bool true)) (h : P) : RetB e P := ⟨true, he, ⟨fun _ => h, fun _ => rfl⟩⟩
def noInst : InV := ⟨0, 0, 0, 0, false, 0, 0, false, 0, false, false, 0⟩
instance : Inhabited InV := ⟨noInst⟩
theorem kInst_sz : kInst.sz = 12 := rfl
theorem kInst_cells {w : World} {i : InV} {cs : List Value} (h : kInst.K w i cs) : cs = i.cells.toList := by
  obtain ⟨a0, b0, rfl, h0, a1, b1, rfl, h1, a2, b2, rfl, h2, a3, b3, rfl, h3, a4, b4, rfl, h4, a5, b5, rfl, h5, a6, b6, rfl, h6, a7, b7, rfl, h7, a8, b8, rfl, h8, a9, b9, rfl, h9, a10, b10, rfl, h10, h11⟩ := h
  cases h0; cases h1; cases h2; cases h3; cases h4; cases h5; cases h6; cases h7; cases h8; cases h9; cases h10; cases h11
  rfl
theorem inst_at {w : World} {A : Option Addr} {n : Nat} {L : List InV} (h : kInst.C w A n L) (i : Nat) (hi : i < n) : ∃ ad, A = some ad ∧ ∀ j v, (L.getD i noInst).cells.toList[j]? = some v → w.cell? ((ad.add (i * 12)).add j) = some v := by
  obtain ⟨ad, cs, e, _, h4, h5⟩ := Kd.C_get h noInst (i : Int) (by omega) (by omega)
  rw [Int.toNat_natCast] at h4 h5
  have e2 := kInst_cells h4
  subst e2
  refine ⟨ad, e, fun j v hv => ?_⟩
  rw [add_add]
  exact h5 j v hv
theorem wpList_load_any {P : Program} {ops : Array Oper} {rest : List Oper} {op : Oper} {a : Act} {w : World} {Q : Exit → Act → World → Prop} (hgd : op.guard = none) (ty : TypeId) (x : Operand) (ho : op.op = .load ty x)
    (p : Addr) (hx : a.eval x = .pointer (some p)) (cs : List Value) (d : TypeDesc) (hc : ∀ j v, cs[j]? = some v → w.cell? (p.add j) = some v)
    (hu : P.underlying ty = some d) (hd : d.isRow = true) (hi : (P.info? ty).map (·.size) = some cs.length)
    (h : wpList P ops Q rest (a.put op.dst (.agg cs.toArray)) w) : wpList P ops Q (op :: rest) a w :=
  wpList_plain hgd fun _ hK => by
    have hl : (loadCells p cs.length).run P w = .ok cs.toArray w := run_loadCells_list (P := P) w p cs hc
    have hv : (loadVar ty p).run P w = .ok (.agg cs.toArray) w := by
      cases hq : P.info? ty with
      | none => simp [hq] at hi
      | some i =>
        have hs : i.size = cs.length := by simpa [hq] using hi
        have hagg : (isAgg ty).run P w = .ok true w := by
          unfold isAgg
          rw [Sem.run_bind, run_underlying hu w]
          cases d <;> simp_all
        simp [loadVar, Sem.run_bind, hagg, sizeOf, typeInfo, hq, hs, hl]
    unfold Oper.wp execOp
    simp only [ho, hx, Instr.loadAt, Instr.sureAddr, Sem.run_bind, Sem.run_pure, Result.andThen_ok, hv]
    exact hK _ _ h
/-- The list may be: at most 4096, each may be, their Ids rise. -/
def MayL (L : List InV) : Prop := L.length ≤ 4096 ∧ ∀ i, i < L.length → instMay (L.getD i noInst) = true ∧ (0 < i → (L.getD (i - 1) noInst).id < (L.getD i noInst).id)
theorem instMay_id {i : InV} (h : instMay i = true) : 1 ≤ i.id ∧ 1 ≤ i.weight ∧ i.weight ≤ 100 := by
  simp only [instMay, Bool.and_eq_true, Bool.not_eq_true', Bool.or_eq_false_iff, decide_eq_false_iff_not] at h
  omega
set_option maxHeartbeats 1000000 in
set_option maxRecDepth 100000 in
theorem sumsMay_calls (A : Option Addr) (c n : Nat) (L : List InV) (w : World) (h : kInst.C w A n L) :
    Calls Try.prog 65 #[.slice A n c] w fun e w' => RetB e (MayL L) ∧ Below w.heap.size w w' := by
  have hl := h.1
  have hm := Kd.C_max h
  have H := Lib.hid h
  have HL := Lib.hid hl
  clear h hl
  by_cases hbig : 4096 < n
  · go_enter Try.func65, Try.ntmps65
    go_wp2_with (fail)
    all_goals first
      | (exfalso; omega)
      | (go_ret; exact ⟨.f rfl (fun hM => by have := hM.1; have := HL.out; omega), Below.refl _ _⟩)
  · go_enter Try.func65, Try.ntmps65
    go_wp2_with (fail)
    go_loopw [3, 11] (fun v3 v11 wr => ∃ (i : Nat) (last : Int), i ≤ n ∧ v11 = .int .i64 i ∧ v3 = .int .u64 last ∧ Hid (Below w.heap.size w wr) ∧ Hid ((i = 0 → last = 0) ∧ (0 < i → last = (L.getD (i - 1) noInst).id) ∧ ∀ j, j < i → instMay (L.getD j noInst) = true ∧ (0 < j → (L.getD (j - 1) noInst).id < (L.getD j noInst).id))) (fun _ v11 _ => n - (intOf v11).toNat)
    case atStart => exact ⟨0, 0, by omega, rfl, rfl, Lib.hid (Below.refl _ _), Lib.hid ⟨fun _ => rfl, fun h => absurd h (by omega), fun j h => absurd h (by omega)⟩⟩
    case round =>
      obtain ⟨i, last, hi, rfl, rfl, HB, HD⟩ := hrel
      by_cases hlt : i < n
      · obtain ⟨ad, ea, hc⟩ := inst_at (Kd.C_below H.out HB.out) i hlt
        subst ea
        obtain ⟨x, hx⟩ : ∃ x, L.getD i noInst = x := ⟨_, rfl⟩
        rw [hx] at hc
        have HX := Lib.hid hx
        have K := fun W => instMay_calls x W
        obtain ⟨r, hr⟩ : ∃ r, instMay x = r := ⟨_, rfl⟩
        rw [hr] at K
        have HR := Lib.hid hr
        have hid : x.id = (L.getD i noInst).id := by rw [hx]
        have HI := Lib.hid hid
        clear hx hr hid
        obtain ⟨i0, i1, i2, i3, i4, i5, i6, i7, i8, i9, i10, i11⟩ := x
        have hc : ∀ j v, ([.int .u64 i0, .int .u64 i1, .int .i64 i2, .int .i64 i3, .bool i4, .int .u8 i5, .int .u64 i6, .bool i7, .int .u64 i8, .bool i9, .bool i10, .int .u32 i11] : List Value)[j]? = some v → wr.cell? ((ad.add (i * 12)).add j) = some v := hc
        simp only [InV.val, InV.cells] at K
        have HCC := Lib.hid hc
        have K := Lib.hid K
        have HB2 := Lib.hid (Boxd.new wr 34 #[.int .u64 i0, .int .u64 i1, .int .i64 i2, .int .i64 i3, .bool i4, .int .u8 i5, .int .u64 i6, .bool i7, .int .u64 i8, .bool i9, .bool i10, .int .u32 i11])
        have HW1 := Lib.hid (HB.out.alloc HB.out.size (.cells #[.int .u64 i0, .int .u64 i1, .int .i64 i2, .int .i64 i3, .bool i4, .int .u8 i5, .int .u64 i6, .bool i7, .int .u64 i8, .bool i9, .bool i10, .int .u32 i11] 34))
        clear hc
        by_cases hq : i0 ≤ last
        · go_wp2_with (first
            | ((with_reducible refine gate_load 34 rfl ?_); refine wpList_load_any rfl 34 _ rfl _ rfl _ _ HCC.out Try.underlying34 rfl (by kernel_rfl) ?_)
            | ((with_reducible refine gate_storeT 34 rfl ?_); refine wpList_store_row rfl 34 _ _ rfl _ _ rfl rfl 34 _ (heap_alloc_new _ _) (by kernel_rfl) rfl (by simp [Value.oneCell']) ?_; rw [setRow_alloc]))
          all_goals first
            | (exfalso; omega)
            | (go_ret
               refine ⟨.f rfl (fun hM => ?_), HW1.out⟩
               obtain ⟨m1, m2⟩ := hM.2 i (by rw [HL.out]; exact hlt)
               obtain ⟨d1, d2, _⟩ := HD.out
               have hi0 := HI.out
               rw [HX.out] at m1 m2
               have e1 := (instMay_id m1).1
               simp only at e1 hi0 m2
               rcases Nat.eq_zero_or_pos i with z | z
               · have := d1 z; omega
               · have := d2 z; have := m2 z; omega)
        · cases r
          all_goals
            go_wp2_with (first
              | ((with_reducible refine gate_load 34 rfl ?_); refine wpList_load_any rfl 34 _ rfl _ rfl _ _ HCC.out Try.underlying34 rfl (by kernel_rfl) ?_)
              | ((with_reducible refine gate_storeT 34 rfl ?_); refine wpList_store_row rfl 34 _ _ rfl _ _ rfl rfl 34 _ (heap_alloc_new _ _) (by kernel_rfl) rfl (by simp [Value.oneCell']) ?_; rw [setRow_alloc])
              | ((with_reducible refine gate_load 34 rfl ?_); refine load_row_g (by rfl) 34 _ rfl _ rfl 34 _ _ _ (by exact HB2.out) Try.underlying34 rfl (by kernel_rfl) ?_)
              | (go_at_call 20; refine (K.out _).mono ?_; rintro e w2 ⟨rfl, hg⟩; have c1 := (HB2.out.below hg.below).cell (k := 0) rfl; have HW2 := Lib.hid (below_step HW1.out hg.below); clear hg))
          · go_ret
            refine ⟨.f rfl (fun hM => ?_), HW2.out⟩
            obtain ⟨m1, m2⟩ := hM.2 i (by rw [HL.out]; exact hlt)
            rw [HX.out, HR.out] at m1
            cases m1
          · obtain ⟨d1, d2, d3⟩ := HD.out
            refine ⟨⟨i + 1, i0, by omega, by go_num, rfl, HW2, Lib.hid ⟨fun h => absurd h (by omega), fun _ => by rw [Nat.add_sub_cancel]; exact HI.out, fun j hj => ?_⟩⟩, by simp only [intOf]; omega⟩
            rcases Nat.lt_or_eq_of_le (Nat.le_of_lt_succ hj) with z | z
            · exact d3 j z
            · subst z
              refine ⟨by rw [HX.out]; exact HR.out, fun hj0 => ?_⟩
              rw [← d2 hj0, ← HI.out]
              show last < i0
              omega
      · have hin : i = n := by omega
        subst hin
        go_wp2_with (fail)
        go_ret
        exact ⟨.t rfl ⟨by rw [HL.out]; omega, fun j hj => HD.out.2.2 j (by rw [HL.out] at hj; exact hj)⟩, HB.out⟩
theorem wpQuiet_load {P : Program} {ops : Array Oper} {C : World → Prop} {Q : Act → Prop} {a : Act} {o : Oper} {rest : List Oper} (hw : Region.wanted o (yielded ops a.tmps) = true) (ty : TypeId) (x : Operand) (ho : o.op = .load ty x) (p : Addr) (hx : a.eval x = .pointer (some p)) (v : Value)
    (hrun : ∀ w, C w → (Instr.loadAt ty (.pointer (some p))).run P w = .ok v w) (h : wpQuiet P ops C Q rest (a.put o.dst v)) : wpQuiet P ops C Q (o :: rest) a :=
  wpQuiet_step fun K hK => by
    rw [if_pos hw]
    refine ⟨v, fun w hc => ?_, hK _ h⟩
    unfold Oper.quietAt execOp
    simp only [ho, hx, Sem.run_bind, hrun w hc, Result.andThen_ok, Sem.run_pure]
    exact ⟨rfl, rfl⟩
theorem growB (w : World) (n : Nat) (os : Array Obj) : Below w.heap.size w (Go.Sort.grow (w.drewN n) os) := Go.Lib.below_grow w.heap.size w (Nat.le_refl _) n os
theorem run_load_any {P : Program} {w : World} (ty : TypeId) (p : Addr) (cs : List Value) (d : TypeDesc) (hc : ∀ j v, cs[j]? = some v → w.cell? (p.add j) = some v)
    (hu : P.underlying ty = some d) (hd : d.isRow = true) (hi : (P.info? ty).map (·.size) = some cs.length) : (Instr.loadAt ty (.pointer (some p))).run P w = .ok (.agg cs.toArray) w := by
  have hl : (loadCells p cs.length).run P w = .ok cs.toArray w := run_loadCells_list (P := P) w p cs hc
  cases hq : P.info? ty with
  | none => simp [hq] at hi
  | some i =>
    have hs : i.size = cs.length := by simpa [hq] using hi
    have hagg : (isAgg ty).run P w = .ok true w := by
      unfold isAgg
      rw [Sem.run_bind, run_underlying hu w]
      cases d <;> simp_all
    simp [Instr.loadAt, Instr.sureAddr, loadVar, Sem.run_bind, hagg, sizeOf, typeInfo, hq, hs, hl]
theorem add_zero' (a : Addr) : a.add 0 = a := by unfold Addr.add; rw [if_pos rfl]
set_option maxHeartbeats 4000000 in
set_option maxRecDepth 100000 in
theorem rsumsMay_calls (A : Option Addr) (c n : Nat) (L : List InV) (w : World) (h : kInst.C w A n L) :
    Calls Try.prog 18 #[.slice A n c] w fun e w' => RetB e (MayL L) ∧ Below w.heap.size w w' := by
  have hl := h.1
  have hm := Kd.C_max h
  have H := Lib.hid h
  have HL := Lib.hid hl
  have mixed : Try.prog.follows .mixedOrders = true := by kernel_rfl
  clear h hl
  by_cases hbig : 4096 < n
  · go_enter Try.func18, Try.ntmps18
    go_wp2_with (fail)
    all_goals first
      | (exfalso; omega)
      | (go_ret; exact ⟨.f rfl (fun hM => by have := hM.1; have := HL.out; omega), Below.refl _ _⟩)
  · go_enter Try.func18, Try.ntmps18
    go_wp2_with (fail)
    go_loopw [3] (fun v3 wr => ∃ (i : Nat), i ≤ n ∧ v3 = .int .i64 i ∧ Hid (Below w.heap.size w wr) ∧ Hid (∀ j, j < i → instMay (L.getD j noInst) = true ∧ (0 < j → (L.getD (j - 1) noInst).id < (L.getD j noInst).id))) (fun v3 _ => n - (intOf v3).toNat)
    case atStart => exact ⟨0, by omega, rfl, Lib.hid (Below.refl _ _), Lib.hid (fun j h => absurd h (by omega))⟩
    case round =>
      obtain ⟨i, hi, rfl, HB, HD⟩ := hrel
      by_cases hlt : i < n
      · obtain ⟨ad, ea, _⟩ := inst_at (Kd.C_below H.out HB.out) i hlt
        subst ea
        have hat : ∀ k, k < n → ∀ m os, ∀ j v, (L.getD k noInst).cells.toList[j]? = some v → (Go.Sort.grow (wr.drewN m) os).cell? ((ad.add (k * 12)).add j) = some v := by
          intro k hk m os
          obtain ⟨ad', ea', hc⟩ := inst_at (Kd.C_below (Kd.C_below H.out HB.out) (growB wr m os)) k hk
          cases ea'
          exact hc
        have hx0 := hat i hlt
        obtain ⟨x, hx⟩ : ∃ x, L.getD i noInst = x := ⟨_, rfl⟩
        rw [hx] at hx0
        have K := fun W => rinstMay_calls x W
        obtain ⟨r, hr⟩ : ∃ r, instMay x = r := ⟨_, rfl⟩
        rw [hr] at K
        have HX := Lib.hid (And.intro hx hr)
        clear hx hr
        obtain ⟨i0, i1, i2, i3, i4, i5, i6, i7, i8, i9, i10, i11⟩ := x
        have ldx : ∀ m os, (Instr.loadAt 34 (.pointer (some (ad.add (i * 12))))).run Try.prog (Go.Sort.grow (wr.drewN m) os) = .ok (.agg #[.int .u64 i0, .int .u64 i1, .int .i64 i2, .int .i64 i3, .bool i4, .int .u8 i5, .int .u64 i6, .bool i7, .int .u64 i8, .bool i9, .bool i10, .int .u32 i11]) (Go.Sort.grow (wr.drewN m) os) := fun m os =>
          run_load_any 34 _ [.int .u64 i0, .int .u64 i1, .int .i64 i2, .int .i64 i3, .bool i4, .int .u8 i5, .int .u64 i6, .bool i7, .int .u64 i8, .bool i9, .bool i10, .int .u32 i11] _ (hx0 m os) Try.underlying34 rfl (by kernel_rfl)
        have q0 : ∀ m os, (Go.Sort.grow (wr.drewN m) os).cell? (ad.add (i * 12)) = some (.int .u64 i0) := fun m os => by have := hx0 m os 0 _ rfl; rw [add_zero'] at this; exact this
        simp only [InV.val, InV.cells] at K
        have K := Lib.hid K
        have HAT := Lib.hid hat
        clear hx0 hat
        cases r with
        | false =>
          go_wp2_with (fail)
          refine Go.wp_region_quiet_grown (by assumption) (by kernel_rfl) ?_
          repeat (go_big_quiet_step (fail))
          refine wpQuiet_load (by rfl) 34 _ rfl (ad.add (i * 12)) rfl (.agg #[.int .u64 i0, .int .u64 i1, .int .i64 i2, .int .i64 i3, .bool i4, .int .u8 i5, .int .u64 i6, .bool i7, .int .u64 i8, .bool i9, .bool i10, .int .u32 i11]) (by rintro _ ⟨p, rfl⟩; exact ldx p.n p.os) ?_
          quiet_step (first | (go_at_call 70; exact Go.Calls.grown_of (Grw.quiet (K.out _))))
          repeat (go_big_quiet_step (fail))
          refine wpQuiet_nil ?_
          intro _ hw'
          obtain ⟨⟨nq, osq⟩, hw''⟩ := hw'
          subst hw''
          have HW1 := Lib.hid (below_step HB.out (growB wr nq osq))
          go_wp2_with (fail)
          go_ret
          refine ⟨.f rfl (fun hM => ?_), HW1.out⟩
          obtain ⟨m1, _⟩ := hM.2 i (by rw [HL.out]; exact hlt)
          rw [HX.out.1, HX.out.2] at m1
          cases m1
        | true =>
          by_cases hi0 : i = 0
          · have g3 : decide (0 < i) = false := decide_eq_false (by omega)
            have g4 : decide ((i : Int) > 0) = false := decide_eq_false (by omega)
            have g5 : ¬ (0 : Int) < (i : Int) := by omega
            have g6 : ¬ 0 < i := by omega
            have HI0 := Lib.hid hi0
            clear hi0
            go_wp2_with (fail)
            refine Go.wp_region_quiet_grown (by assumption) (by kernel_rfl) ?_
            repeat (go_big_quiet_step (fail))
            refine wpQuiet_load (by rfl) 34 _ rfl (ad.add (i * 12)) rfl (.agg #[.int .u64 i0, .int .u64 i1, .int .i64 i2, .int .i64 i3, .bool i4, .int .u8 i5, .int .u64 i6, .bool i7, .int .u64 i8, .bool i9, .bool i10, .int .u32 i11]) (by rintro _ ⟨p, rfl⟩; exact ldx p.n p.os) ?_
            quiet_step (first | (go_at_call 70; exact Go.Calls.grown_of (Grw.quiet (K.out _))))
            repeat (go_big_quiet_step (fail))
            refine wpQuiet_nil ?_
            intro _ hw'
            obtain ⟨⟨nq, osq⟩, hw''⟩ := hw'
            subst hw''
            have HW1 := Lib.hid (below_step HB.out (growB wr nq osq))
            go_wp2_with (fail)
            refine ⟨⟨i + 1, by omega, by go_num, HW1, Lib.hid (fun j hj => ?_)⟩, by simp only [intOf]; omega⟩
            have := HI0.out
            obtain rfl : j = i := by omega
            exact ⟨by rw [HX.out.1]; exact HX.out.2, fun hj0 => by omega⟩
          · obtain ⟨iP, hiP⟩ : ∃ q, q = i - 1 := ⟨_, rfl⟩
            have ec : ((i : Int) - 1).toNat = iP := by omega
            have pc : (0 : Int) ≤ (i : Int) - 1 := by omega
            have pd' : (1 : Int) ≤ (i : Int) := by omega
            have bc : (i : Int) - 1 < (n : Int) := by omega
            have rc : IntKind.i64.wrap ((i : Int) - 1) = (i : Int) - 1 := by rw [IntKind.wrap_i64]; omega
            have g3 : decide (0 < i) = true := decide_eq_true (by omega)
            have g4 : decide ((i : Int) > 0) = true := decide_eq_true (by omega)
            have g5 : (0 : Int) < (i : Int) := by omega
            have g6 : 0 < i := by omega
            have hy0 := HAT.out iP (by omega)
            obtain ⟨y, hy⟩ : ∃ y, (L.getD iP noInst).id = y := ⟨_, rfl⟩
            have q1 : ∀ m os, (Go.Sort.grow (wr.drewN m) os).cell? (ad.add (iP * 12)) = some (.int .u64 y) := fun m os => by have := hy0 m os 0 (.int .u64 (L.getD iP noInst).id) rfl; rw [add_zero', hy] at this; exact this
            have HY := Lib.hid (And.intro hy hiP)
            clear hy0 hy hiP hi0
            by_cases hq : i0 ≤ y
            · have d1 : decide (i0 ≤ y) = true := decide_eq_true hq
              go_wp2_with (fail)
              refine Go.wp_region_quiet_grown (by assumption) (by kernel_rfl) ?_
              repeat (go_big_quiet_step (fail))
              refine wpQuiet_load (by rfl) 34 _ rfl (ad.add (i * 12)) rfl (.agg #[.int .u64 i0, .int .u64 i1, .int .i64 i2, .int .i64 i3, .bool i4, .int .u8 i5, .int .u64 i6, .bool i7, .int .u64 i8, .bool i9, .bool i10, .int .u32 i11]) (by rintro _ ⟨p, rfl⟩; exact ldx p.n p.os) ?_
              quiet_step (first | (go_at_call 70; exact Go.Calls.grown_of (Grw.quiet (K.out _))))
              repeat (go_big_quiet_step (fail))
              refine wpQuiet_nil ?_
              intro _ hw'
              obtain ⟨⟨nq, osq⟩, hw''⟩ := hw'
              subst hw''
              have HW1 := Lib.hid (below_step HB.out (growB wr nq osq))
              go_wp2_with (fail)
              go_ret
              refine ⟨.f rfl (fun hM => ?_), HW1.out⟩
              obtain ⟨_, m2⟩ := hM.2 i (by rw [HL.out]; exact hlt)
              have m3 := m2 g6
              obtain ⟨hy, hiP⟩ := HY.out
              rw [HX.out.1, show i - 1 = iP from hiP.symm, hy] at m3
              simp only at m3
              omega
            · have d1 : decide (i0 ≤ y) = false := decide_eq_false hq
              go_wp2_with (fail)
              refine Go.wp_region_quiet_grown (by assumption) (by kernel_rfl) ?_
              repeat (go_big_quiet_step (fail))
              refine wpQuiet_load (by rfl) 34 _ rfl (ad.add (i * 12)) rfl (.agg #[.int .u64 i0, .int .u64 i1, .int .i64 i2, .int .i64 i3, .bool i4, .int .u8 i5, .int .u64 i6, .bool i7, .int .u64 i8, .bool i9, .bool i10, .int .u32 i11]) (by rintro _ ⟨p, rfl⟩; exact ldx p.n p.os) ?_
              quiet_step (first | (go_at_call 70; exact Go.Calls.grown_of (Grw.quiet (K.out _))))
              repeat (go_big_quiet_step (fail))
              refine wpQuiet_nil ?_
              intro _ hw'
              obtain ⟨⟨nq, osq⟩, hw''⟩ := hw'
              subst hw''
              have HW1 := Lib.hid (below_step HB.out (growB wr nq osq))
              go_wp2_with (fail)
              refine ⟨⟨i + 1, by omega, by go_num, HW1, Lib.hid (fun j hj => ?_)⟩, by simp only [intOf]; omega⟩
              rcases Nat.lt_or_eq_of_le (Nat.le_of_lt_succ hj) with z | z
              · exact HD.out j z
              · subst z
                obtain ⟨hy, hiP⟩ := HY.out
                refine ⟨by rw [HX.out.1]; exact HX.out.2, fun hj0 => ?_⟩
                rw [HX.out.1, show j - 1 = iP from hiP.symm, hy]
                show y < i0
                omega
      · have hin : i = n := by omega
        subst hin
        go_wp2_with (fail)
        go_ret
        exact ⟨.t rfl ⟨by rw [HL.out]; omega, fun j hj => HD.out j (by rw [HL.out] at hj; exact hj)⟩, HB.out⟩
theorem add_ne (p : Addr) (k : Nat) (hk : k ≠ 0) : p.add k = { block := p.block, off := p.off + k } := by
  unfold Addr.add
  simp [hk]
theorem RetB.b {e : Ending} {P : Prop} (h : RetB e P) (hp : P) : e = .returned (.bool true) := by
  obtain ⟨b, rfl, hb⟩ := h
  rw [hb.2 hp]
theorem RetB.n {e : Ending} {P : Prop} (h : RetB e P) (hp : ¬ P) : e = .returned (.bool false) := by
  obtain ⟨b, rfl, hb⟩ := h
  cases b with
  | false => rfl
  | true => exact absurd (hb.1 rfl) hp
theorem Opens.weak {P : Program} {t : TypeId} {α : Type} {k : Kd α} {wf : α → Prop} (h : Opens P t k wf) : Opens P t k (fun _ => True) where
  size := h.size
  read := fun hr hw => by
    obtain ⟨a, ha, _⟩ := h.read hr hw
    exact ⟨a, ha, trivial⟩
theorem o_i64 : Opens Try.prog 2 (Kd.int .i64) (fun _ => True) := (Opens.int Try.underlying2 (by kernel_rfl)).weak
theorem o_int : Opens Try.prog 3 (Kd.int .i64) (fun _ => True) := (Opens.int Try.underlying3 (by kernel_rfl)).weak
theorem o_u64 : Opens Try.prog 31 (Kd.int .u64) (fun _ => True) := (Opens.int Try.underlying31 (by kernel_rfl)).weak
theorem o_u32 : Opens Try.prog 32 (Kd.int .u32) (fun _ => True) := (Opens.int Try.underlying32 (by kernel_rfl)).weak
theorem o_u8 : Opens Try.prog 5 (Kd.int .u8) (fun _ => True) := (Opens.int Try.underlying5 (by kernel_rfl)).weak
theorem o_bool : Opens Try.prog 4 Kd.bool (fun _ => True) := Opens.bool Try.underlying4 (by kernel_rfl)
theorem o_inst : Opens Try.prog 34 kInst (fun _ => True) :=
  (Opens.iso (Opens.struct (k := kInst0) Try.underlying34 rfl
    ((OpensFs.cons o_u64 (OpensFs.cons o_u64 (OpensFs.cons o_int (OpensFs.cons o_i64 (OpensFs.cons o_bool (OpensFs.cons o_u8 (OpensFs.cons o_u64 (OpensFs.cons o_bool (OpensFs.cons o_u64 (OpensFs.cons o_bool (OpensFs.cons o_bool (OpensFs.one o_u32)))))))))))) : OpensFs _ _ kInst0 _)
    (by kernel_rfl) (by kernel_rfl) (by kernel_rfl)) (fun i : InV => (i.id, i.token, i.pool, i.weight, i.spot, i.state, i.due, i.noticed, i.kill, i.risk, i.held, i.version))
    (fun p => ⟨p.1, p.2.1, p.2.2.1, p.2.2.2.1, p.2.2.2.2.1, p.2.2.2.2.2.1, p.2.2.2.2.2.2.1, p.2.2.2.2.2.2.2.1, p.2.2.2.2.2.2.2.2.1, p.2.2.2.2.2.2.2.2.2.1, p.2.2.2.2.2.2.2.2.2.2.1, p.2.2.2.2.2.2.2.2.2.2.2⟩) (fun _ => rfl)).weak
end Go.Proofs.Ytaoflcmjmhfblaa.H
