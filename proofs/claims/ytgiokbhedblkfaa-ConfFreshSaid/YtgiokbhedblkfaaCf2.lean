/- conf.whole: a number's field. -/
import Derived.Test.YtgiokbhedblkfaaCf1
namespace Go.Proofs.Ytgiokbhedblkfaa.C
open Go.RowKit Go.Proofs.YtgiokbhedblkfaaW.PrintWords Go.Proofs.YtgiokbhedblkfaaW.PrintLast Go.Proofs.YtgiokbhedblkfaaW.PrintMore Go.Proofs.Ytgiokbhedblkfaa.H Go.Shelf
set_option linter.unusedVariables false
set_option linter.unusedSimpArgs false
def fldI (g size least most : Int) (b : Nat) : Value := .agg #[.func (.func 116) #[] #[.pointer (some ⟨b, 0, none⟩)], .func (.func 117) #[] #[.pointer (some ⟨b, 0, none⟩)], .int .i64 size, .int .i64 least, .int .i64 most, .int .i64 0, .bool false]
theorem wholeI_calls (p : Addr) (size least most : Int) (w : World) :
    Calls Try.prog 92 #[.pointer (some p), .int .i64 size, .int .i64 least, .int .i64 most] w fun e w' => e = .returned (fldI 0 size least most w.heap.size) ∧ Below w.heap.size w w' ∧ w'.heap.size = w.heap.size + 2 ∧ w'.cell? ⟨w.heap.size, 0, none⟩ = some (.pointer (some p)) := by
  have hx : ((w.alloc (.cells #[.pointer (some p)] 116 (0, 0))).alloc (.cells #[.nilFunc, .nilFunc, .int .i64 0, .int .i64 0, .int .i64 0, .int .i64 0, .bool false] 108 (0, 0))).heap[w.heap.size + 1]? = some (.cells #[.nilFunc, .nilFunc, .int .i64 0, .int .i64 0, .int .i64 0, .int .i64 0, .bool false] 108 (0, 0)) := by
    have h1 := heap_alloc_new (w.alloc (.cells #[.pointer (some p)] 116 (0, 0))) (.cells #[.nilFunc, .nilFunc, .int .i64 0, .int .i64 0, .int .i64 0, .int .i64 0, .bool false] 108 (0, 0))
    rwa [World.size_alloc] at h1
  have HX := Lib.hid hx
  clear hx
  go_enter Try.func92, Try.ntmps92
  go_wp2_with (first
    | ((with_reducible refine gate_storeT 108 rfl ?_); refine wpList_store_row rfl 108 _ _ rfl _ _ rfl rfl 108 _ HX.out (by kernel_rfl) rfl (by simp [Value.oneCell']) ?_))
  exact bodyPost_ret (res_cell rfl rfl (run_loadVar_box 108 _ 108 _ _ _ (setRow_heap _ _ _ _ _ _ HX.out) Try.underlying108 rfl (by kernel_rfl))) rfl ⟨rfl, below_setRow (((Below.refl _ _).alloc (Nat.le_refl _) _).alloc (by simp) _) (by omega) _, by rw [size_setRow]; simp, by rw [cell_setRow_other _ _ _ _ (by simp)]; simp⟩
def fldU (g size least most : Int) (b : Nat) : Value := .agg #[.func (.func 118) #[] #[.pointer (some ⟨b, 0, none⟩)], .func (.func 119) #[] #[.pointer (some ⟨b, 0, none⟩)], .int .i64 size, .int .i64 least, .int .i64 most, .int .i64 0, .bool false]
theorem wholeU_calls (p : Addr) (size least most : Int) (w : World) :
    Calls Try.prog 94 #[.pointer (some p), .int .i64 size, .int .i64 least, .int .i64 most] w fun e w' => e = .returned (fldU 0 size least most w.heap.size) ∧ Below w.heap.size w w' ∧ w'.heap.size = w.heap.size + 2 ∧ w'.cell? ⟨w.heap.size, 0, none⟩ = some (.pointer (some p)) := by
  have hx : ((w.alloc (.cells #[.pointer (some p)] 114 (0, 0))).alloc (.cells #[.nilFunc, .nilFunc, .int .i64 0, .int .i64 0, .int .i64 0, .int .i64 0, .bool false] 108 (0, 0))).heap[w.heap.size + 1]? = some (.cells #[.nilFunc, .nilFunc, .int .i64 0, .int .i64 0, .int .i64 0, .int .i64 0, .bool false] 108 (0, 0)) := by
    have h1 := heap_alloc_new (w.alloc (.cells #[.pointer (some p)] 114 (0, 0))) (.cells #[.nilFunc, .nilFunc, .int .i64 0, .int .i64 0, .int .i64 0, .int .i64 0, .bool false] 108 (0, 0))
    rwa [World.size_alloc] at h1
  have HX := Lib.hid hx
  clear hx
  go_enter Try.func94, Try.ntmps94
  go_wp2_with (first
    | ((with_reducible refine gate_storeT 108 rfl ?_); refine wpList_store_row rfl 108 _ _ rfl _ _ rfl rfl 108 _ HX.out (by kernel_rfl) rfl (by simp [Value.oneCell']) ?_))
  exact bodyPost_ret (res_cell rfl rfl (run_loadVar_box 108 _ 108 _ _ _ (setRow_heap _ _ _ _ _ _ HX.out) Try.underlying108 rfl (by kernel_rfl))) rfl ⟨rfl, below_setRow (((Below.refl _ _).alloc (Nat.le_refl _) _).alloc (by simp) _) (by omega) _, by rw [size_setRow]; simp, by rw [cell_setRow_other _ _ _ _ (by simp)]; simp⟩
def fldB (g size least most : Int) (b : Nat) : Value := .agg #[.func (.func 120) #[] #[.pointer (some ⟨b, 0, none⟩)], .func (.func 121) #[] #[.pointer (some ⟨b, 0, none⟩)], .int .i64 size, .int .i64 least, .int .i64 most, .int .i64 0, .bool false]
theorem wholeB_calls (p : Addr) (size least most : Int) (w : World) :
    Calls Try.prog 95 #[.pointer (some p), .int .i64 size, .int .i64 least, .int .i64 most] w fun e w' => e = .returned (fldB 0 size least most w.heap.size) ∧ Below w.heap.size w w' ∧ w'.heap.size = w.heap.size + 2 ∧ w'.cell? ⟨w.heap.size, 0, none⟩ = some (.pointer (some p)) := by
  have hx : ((w.alloc (.cells #[.pointer (some p)] 142 (0, 0))).alloc (.cells #[.nilFunc, .nilFunc, .int .i64 0, .int .i64 0, .int .i64 0, .int .i64 0, .bool false] 108 (0, 0))).heap[w.heap.size + 1]? = some (.cells #[.nilFunc, .nilFunc, .int .i64 0, .int .i64 0, .int .i64 0, .int .i64 0, .bool false] 108 (0, 0)) := by
    have h1 := heap_alloc_new (w.alloc (.cells #[.pointer (some p)] 142 (0, 0))) (.cells #[.nilFunc, .nilFunc, .int .i64 0, .int .i64 0, .int .i64 0, .int .i64 0, .bool false] 108 (0, 0))
    rwa [World.size_alloc] at h1
  have HX := Lib.hid hx
  clear hx
  go_enter Try.func95, Try.ntmps95
  go_wp2_with (first
    | ((with_reducible refine gate_storeT 108 rfl ?_); refine wpList_store_row rfl 108 _ _ rfl _ _ rfl rfl 108 _ HX.out (by kernel_rfl) rfl (by simp [Value.oneCell']) ?_))
  exact bodyPost_ret (res_cell rfl rfl (run_loadVar_box 108 _ 108 _ _ _ (setRow_heap _ _ _ _ _ _ HX.out) Try.underlying108 rfl (by kernel_rfl))) rfl ⟨rfl, below_setRow (((Below.refl _ _).alloc (Nat.le_refl _) _).alloc (by simp) _) (by omega) _, by rw [size_setRow]; simp, by rw [cell_setRow_other _ _ _ _ (by simp)]; simp⟩
def fldT (b : Nat) : Value := .agg #[.func (.func 122) #[] #[.pointer (some ⟨b, 0, none⟩)], .func (.func 123) #[] #[.pointer (some ⟨b, 0, none⟩)], .int .i64 1, .int .i64 0, .int .i64 1, .int .i64 0, .bool true]
theorem truth_calls (p : Addr) (w : World) :
    Calls Try.prog 96 #[.pointer (some p)] w fun e w' => e = .returned (fldT w.heap.size) ∧ Below w.heap.size w w' ∧ w'.heap.size = w.heap.size + 2 ∧ w'.cell? ⟨w.heap.size, 0, none⟩ = some (.pointer (some p)) := by
  have hx : ((w.alloc (.cells #[.pointer (some p)] 118 (0, 0))).alloc (.cells #[.nilFunc, .nilFunc, .int .i64 0, .int .i64 0, .int .i64 0, .int .i64 0, .bool false] 108 (0, 0))).heap[w.heap.size + 1]? = some (.cells #[.nilFunc, .nilFunc, .int .i64 0, .int .i64 0, .int .i64 0, .int .i64 0, .bool false] 108 (0, 0)) := by
    have h1 := heap_alloc_new (w.alloc (.cells #[.pointer (some p)] 118 (0, 0))) (.cells #[.nilFunc, .nilFunc, .int .i64 0, .int .i64 0, .int .i64 0, .int .i64 0, .bool false] 108 (0, 0))
    rwa [World.size_alloc] at h1
  have HX := Lib.hid hx
  clear hx
  go_enter Try.func96, Try.ntmps96
  go_wp2_with (first
    | ((with_reducible refine gate_storeT 108 rfl ?_); refine wpList_store_row rfl 108 _ _ rfl _ _ rfl rfl 108 _ HX.out (by kernel_rfl) rfl (by simp [Value.oneCell']) ?_))
  exact bodyPost_ret (res_cell rfl rfl (run_loadVar_box 108 _ 108 _ _ _ (setRow_heap _ _ _ _ _ _ HX.out) Try.underlying108 rfl (by kernel_rfl))) rfl ⟨rfl, below_setRow (((Below.refl _ _).alloc (Nat.le_refl _) _).alloc (by simp) _) (by omega) _, by rw [size_setRow]; simp, by rw [cell_setRow_other _ _ _ _ (by simp)]; simp⟩
end Go.Proofs.Ytgiokbhedblkfaa.C
