/- One instance: whether it may be, what stays, the rows of what is up, drained, ended. -/
import Derived.Test.YtaoflcmjmhfblaaGVals
namespace Go.Proofs.Ytaoflcmjmhfblaa.I
open Go.RowKit Go.Proofs.YtaoflcmjmhfblaaW.PrintWords Go.Proofs.YtaoflcmjmhfblaaW.PrintLast Go.Proofs.YtaoflcmjmhfblaaW.PrintMore Go.Proofs.Ytaoflcmjmhfblaa.H Go.Shelf
set_option linter.unusedVariables false
set_option linter.unusedSimpArgs false
structure InV where
  id : Int
  token : Int
  pool : Int
  weight : Int
  spot : Bool
  state : Int
  due : Int
  noticed : Bool
  kill : Int
  risk : Bool
  held : Bool
  version : Int
deriving DecidableEq
def InV.cells (i : InV) : Array Value := #[.int .u64 i.id, .int .u64 i.token, .int .i64 i.pool, .int .i64 i.weight, .bool i.spot, .int .u8 i.state, .int .u64 i.due, .bool i.noticed, .int .u64 i.kill, .bool i.risk, .bool i.held, .int .u32 i.version]
def InV.val (i : InV) : Value := .agg i.cells
def instMay (i : InV) : Bool := !(decide (i.id < 1) || decide (4611686018427387904 < i.id) || decide (4611686018427387904 < i.token)) && !(decide (i.pool < 0) || decide (64 ≤ i.pool) || decide (i.weight < 1) || decide (100 < i.weight)) && !(decide (i.state < 1) || decide (9 < i.state)) && (decide (i.due ≤ 1099511758848) && decide (i.kill ≤ 1099511758848) && (i.noticed || i.kill == 0))
/-- A configuration of which four spans are told; all else is zero. -/
structure CfV where
  hi : Int
  ho : Int
  dr : Int
  dl : Int
def CfV.cells (c : CfV) : Array Value := #[.slice none 0 0, .int .u8 0, .int .i64 0, .bool false, .int .i64 0, .int .i64 0, .int .i64 0, .int .i64 0, .int .i64 0, .int .i64 0, .int .u64 c.dr, .int .u64 c.hi, .int .u64 c.ho, .int .u64 0, .int .u64 c.dl, .int .u64 0, .bool false, .int .i64 0, .slice none 0 0, .slice none 0 0]
def CfV.val (c : CfV) : Value := .agg c.cells
set_option maxHeartbeats 1000000 in
set_option maxRecDepth 100000 in
theorem instMay_calls (i : InV) (w : World) : Calls Try.prog 20 #[i.val] w fun e w' => e = .returned (.bool (instMay i)) ∧ Below w.heap.size w w' := by
  obtain ⟨i0, i1, i2, i3, i4, i5, i6, i7, i8, i9, i10, i11⟩ := i
  obtain ⟨r, hr⟩ : ∃ r, instMay ⟨i0, i1, i2, i3, i4, i5, i6, i7, i8, i9, i10, i11⟩ = r := ⟨_, rfl⟩
  rw [hr]
  have HR := Lib.hid hr
  clear hr
  simp only [InV.val, InV.cells]
  go_enter Try.func20, Try.ntmps20
  go_wp2_with (fail)
  all_goals (go_ret; exact ⟨ret_b (by rw [← HR.out]; simp [instMay, *] <;> (intros; exfalso; omega)), (Below.refl _ _).alloc (Nat.le_refl _) _⟩)
def serves (i : InV) : Bool := i.state == 3
def comes (i : InV) : Bool := i.state == 1 || i.state == 2 || i.state == 9
set_option maxHeartbeats 1000000 in
theorem serves_calls (i : InV) (w : World) : Calls Try.prog 21 #[i.val] w fun e w' => e = .returned (.bool (serves i)) ∧ Below w.heap.size w w' := by
  obtain ⟨i0, i1, i2, i3, i4, i5, i6, i7, i8, i9, i10, i11⟩ := i
  simp only [InV.val, InV.cells, serves]
  go_enter Try.func21, Try.ntmps21
  go_wp2_with (fail)
  all_goals (go_ret; exact ⟨rfl, (Below.refl _ _).alloc (Nat.le_refl _) _⟩)
set_option maxHeartbeats 1000000 in
theorem comes_calls (i : InV) (w : World) : Calls Try.prog 24 #[i.val] w fun e w' => e = .returned (.bool (comes i)) ∧ Below w.heap.size w w' := by
  obtain ⟨i0, i1, i2, i3, i4, i5, i6, i7, i8, i9, i10, i11⟩ := i
  obtain ⟨r, hr⟩ : ∃ r, comes ⟨i0, i1, i2, i3, i4, i5, i6, i7, i8, i9, i10, i11⟩ = r := ⟨_, rfl⟩
  rw [hr]
  have HR := Lib.hid hr
  clear hr
  simp only [InV.val, InV.cells]
  go_enter Try.func24, Try.ntmps24
  go_wp2_with (fail)
  all_goals (go_ret; exact ⟨ret_b (by rw [← HR.out]; simp [comes, *]), (Below.refl _ _).alloc (Nat.le_refl _) _⟩)
/-- A row: the state, how long it is due, whether it is timed, what is asked. -/
abbrev RowV := Int × Int × Bool × Int
def encR (r : RowV) : Value := .agg #[.int .u8 r.1, .int .u64 r.2.1, .bool r.2.2.1, .int .u8 r.2.2.2]
def endR : RowV := (6, 0, false, 2)
def upR (c : CfV) : RowV := if 0 < c.hi then (2, c.hi, true, 0) else (3, 0, false, 0)
def leftR (c : CfV) : RowV := if 0 < c.ho then (5, c.ho, true, 0) else endR
/-- The newest block. -/
theorem newest (w : World) (o : Obj) (n : Nat) (h : w.heap.size = n) : (w.alloc o).heap[n]? = some o := by rw [← h]; exact heap_alloc_new w o
set_option maxHeartbeats 1000000 in
theorem end_calls (w : World) : Calls Try.prog 145 #[] w fun e w' => e = .returned (encR endR) ∧ Below w.heap.size w w' := by
  simp only [encR, endR]
  go_enter Try.func145, Try.ntmps145
  go_wp2_with (first | ((with_reducible refine gate_storeT 133 rfl ?_); refine wpList_store_row rfl 133 _ _ rfl _ _ rfl rfl 133 _ (heap_alloc_new _ _) (by kernel_rfl) rfl (by simp [Value.oneCell']) ?_; rw [setRow_alloc]))
  exact bodyPost_ret (res_cell rfl rfl (run_loadVar_box 133 _ 133 _ _ _ (heap_alloc_new _ _) Try.underlying133 rfl (by kernel_rfl))) rfl ⟨rfl, (Below.refl _ _).alloc (Nat.le_refl _) _⟩
def rowZ : Obj := .cells #[.int .u8 0, .int .u64 0, .bool false, .int .u8 0] 133 (0, 0)
theorem row_there (w : World) (o : Obj) : ((w.alloc o).alloc rowZ).heap[w.heap.size + 1]? = some (.cells #[.int .u8 0, .int .u64 0, .bool false, .int .u8 0] 133 (0, 0)) := newest (w.alloc o) _ _ (by simp)
theorem row_later (w : World) (o : Obj) {W : World} (h : Below ((w.alloc o).alloc rowZ).heap.size ((w.alloc o).alloc rowZ) W) : W.heap[w.heap.size + 1]? = some (.cells #[.int .u8 0, .int .u64 0, .bool false, .int .u8 0] 133 (0, 0)) :=
  (h.block _ (by simp)).trans (row_there w o)
set_option maxHeartbeats 1000000 in
theorem up_calls (c : CfV) (w : World) : Calls Try.prog 165 #[c.val] w fun e w' => e = .returned (encR (upR c)) ∧ Below w.heap.size w w' := by
  obtain ⟨hi, ho, dr, dl⟩ := c
  simp only [CfV.val, CfV.cells]
  have HR := Lib.hid (fun o => row_there w o)
  have HB := Lib.hid (fun o => ((Below.refl w.heap.size w).alloc (Nat.le_refl _) o).alloc (by simp) rowZ)
  by_cases h : 0 < hi
  · simp only [encR, upR, if_pos h]
    go_enter Try.func165, Try.ntmps165
    go_wp2_with (first | ((with_reducible refine gate_storeT 133 rfl ?_); refine wpList_store_row rfl 133 _ _ rfl _ _ rfl rfl 133 _ (HR.out _) (by kernel_rfl) rfl (by simp [Value.oneCell']) ?_))
    all_goals first | (exfalso; omega) | exact bodyPost_ret (res_cell rfl rfl (run_loadVar_box 133 _ 133 _ _ _ (setRow_heap _ _ _ _ _ _ (HR.out _)) Try.underlying133 rfl (by kernel_rfl))) rfl ⟨rfl, below_setRow (HB.out _) (by omega) _⟩
  · simp only [encR, upR, if_neg h]
    go_enter Try.func165, Try.ntmps165
    go_wp2_with (first | ((with_reducible refine gate_storeT 133 rfl ?_); refine wpList_store_row rfl 133 _ _ rfl _ _ rfl rfl 133 _ (HR.out _) (by kernel_rfl) rfl (by simp [Value.oneCell']) ?_))
    all_goals first | (exfalso; omega) | exact bodyPost_ret (res_cell rfl rfl (run_loadVar_box 133 _ 133 _ _ _ (setRow_heap _ _ _ _ _ _ (HR.out _)) Try.underlying133 rfl (by kernel_rfl))) rfl ⟨rfl, below_setRow (HB.out _) (by omega) _⟩
set_option maxHeartbeats 1000000 in
theorem left_calls (c : CfV) (w : World) : Calls Try.prog 166 #[c.val] w fun e w' => e = .returned (encR (leftR c)) ∧ Below w.heap.size w w' := by
  obtain ⟨hi, ho, dr, dl⟩ := c
  simp only [CfV.val, CfV.cells]
  have HE := Lib.hid (fun W => end_calls W)
  have HR := Lib.hid (fun o => row_there w o)
  have HB := Lib.hid (fun o => ((Below.refl w.heap.size w).alloc (Nat.le_refl _) o).alloc (by simp) rowZ)
  by_cases h : 0 < ho
  · simp only [encR, leftR, if_pos h]
    go_enter Try.func166, Try.ntmps166
    go_wp2_with (first | ((with_reducible refine gate_storeT 133 rfl ?_); refine wpList_store_row rfl 133 _ _ rfl _ _ rfl rfl 133 _ (HR.out _) (by kernel_rfl) rfl (by simp [Value.oneCell']) ?_))
    all_goals first | (exfalso; omega) | exact bodyPost_ret (res_cell rfl rfl (run_loadVar_box 133 _ 133 _ _ _ (setRow_heap _ _ _ _ _ _ (HR.out _)) Try.underlying133 rfl (by kernel_rfl))) rfl ⟨rfl, below_setRow (HB.out _) (by omega) _⟩
  · simp only [leftR, if_neg h]
    go_enter Try.func166, Try.ntmps166
    go_wp2_with (first | (go_at_call 145; (with_reducible refine (HE.out _).mono ?_); rintro e w2 ⟨rfl, hb2⟩; have HB2 := Lib.hid hb2; clear hb2; simp only [encR, endR]) | ((with_reducible refine gate_storeT 133 rfl ?_); refine wpList_store_row rfl 133 _ _ rfl _ _ rfl rfl 133 _ (row_later w _ HB2.out) (by kernel_rfl) rfl (by simp [Value.oneCell']) ?_))
    all_goals first | (exfalso; omega) | exact bodyPost_ret (res_cell rfl rfl (run_loadVar_box 133 _ 133 _ _ _ (setRow_heap _ _ _ _ _ _ (row_later w _ HB2.out)) Try.underlying133 rfl (by kernel_rfl))) rfl ⟨rfl, below_setRow (below_step (HB.out _) HB2.out) (by omega) _⟩
def spansOk (c : CfV) : Prop := c.hi ≤ 65536 ∧ c.ho ≤ 65536 ∧ c.dr ≤ 65536 ∧ c.dl ≤ 65536
end Go.Proofs.Ytaoflcmjmhfblaa.I
