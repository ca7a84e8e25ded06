/- conf: what makes a field: whole, truth, shifted, own's capacity and span. -/
import Derived.Test.YtgiokbhedblkfaaCf4
namespace Go.Proofs.Ytgiokbhedblkfaa.C
open Go.RowKit Go.Proofs.YtgiokbhedblkfaaW.PrintWords Go.Proofs.YtgiokbhedblkfaaW.PrintLast Go.Proofs.YtgiokbhedblkfaaW.PrintMore Go.Proofs.Ytgiokbhedblkfaa.H Go.Shelf
set_option linter.unusedVariables false
set_option linter.unusedSimpArgs false
/-- A call that makes a field: its box is new. -/
def Mk (w : World) (k : FK) (p : Addr) (size least most frm : Int) (e : Ending) (w' : World) : Prop :=
  ∃ b, e = .returned (Fd.v ⟨k, p, b, size, least, most, frm, 0⟩) ∧ Below w.heap.size w w' ∧ w.heap.size ≤ b ∧ w'.cell? ⟨b, 0, none⟩ = some (.pointer (some p))
theorem wholeI_mk (p : Addr) (size least most : Int) (w : World) : Calls Try.prog 92 #[.pointer (some p), .int .i64 size, .int .i64 least, .int .i64 most] w (Mk w .I p size least most 0) :=
  (wholeI_calls p size least most w).mono fun _ _ ⟨h1, h2, h3, h4⟩ => ⟨w.heap.size, h1, h2, Nat.le_refl _, h4⟩
theorem wholeU_mk (p : Addr) (size least most : Int) (w : World) : Calls Try.prog 94 #[.pointer (some p), .int .i64 size, .int .i64 least, .int .i64 most] w (Mk w .U p size least most 0) :=
  (wholeU_calls p size least most w).mono fun _ _ ⟨h1, h2, h3, h4⟩ => ⟨w.heap.size, h1, h2, Nat.le_refl _, h4⟩
theorem wholeB_mk (p : Addr) (size least most : Int) (w : World) : Calls Try.prog 95 #[.pointer (some p), .int .i64 size, .int .i64 least, .int .i64 most] w (Mk w .B p size least most 0) :=
  (wholeB_calls p size least most w).mono fun _ _ ⟨h1, h2, h3, h4⟩ => ⟨w.heap.size, h1, h2, Nat.le_refl _, h4⟩
theorem truth_mk (p : Addr) (w : World) : Calls Try.prog 96 #[.pointer (some p)] w (Mk w .T p 1 0 1 0) :=
  (truth_calls p w).mono fun _ _ ⟨h1, h2, h3, h4⟩ => ⟨w.heap.size, h1, h2, Nat.le_refl _, h4⟩
def z7 : Array Value := #[.nilFunc, .nilFunc, .int .i64 0, .int .i64 0, .int .i64 0, .int .i64 0, .bool false]
set_option maxHeartbeats 1000000 in
theorem cap_mk (p : Addr) (w : World) : Calls Try.prog 91 #[.pointer (some p)] w (Mk w .I p 4 0 65536 0) := by
  obtain ⟨W, hW⟩ : ∃ W, W = w.alloc (.cells #[.nilFunc, .nilFunc, .int .i64 0, .int .i64 0, .int .i64 0, .int .i64 0, .bool false] 108 (0, 0)) := ⟨_, rfl⟩
  have hB : Below w.heap.size w W := by rw [hW]; exact (Below.refl _ _).alloc (Nat.le_refl _) _
  have hblk : W.heap[w.heap.size]? = some (.cells #[.nilFunc, .nilFunc, .int .i64 0, .int .i64 0, .int .i64 0, .int .i64 0, .bool false] 108 (0, 0)) := by rw [hW]; exact heap_alloc_new _ _
  have hsz : W.heap.size = w.heap.size + 1 := by rw [hW]; simp
  have K := Lib.hid (wholeI_mk p 4 0 65536 W)
  have HB := Lib.hid hB
  have HK := Lib.hid hblk
  have HS := Lib.hid hsz
  have hx := hW.symm
  clear hB hW hblk hsz
  go_enter Try.func91, Try.ntmps91
  go_wp2_with (first
    | (go_at_call 92; refine K.out.mono ?_; rintro e w1 ⟨b, rfl, hb, hlt, hc⟩; simp only [Fd.v, Fd.cells]; have HB1 := Lib.hid (below_step HB.out hb); have HX := Lib.hid ((hb.block w.heap.size (by rw [HS.out]; omega)).trans HK.out); have HC := Lib.hid hc; have HL := Lib.hid hlt; clear hb hlt hc)
    | ((with_reducible refine gate_storeT 108 rfl ?_); refine wpList_store_row rfl 108 _ _ rfl _ _ rfl rfl 108 _ HX.out (by kernel_rfl) rfl (by simp [Value.oneCell']) ?_))
  exact bodyPost_ret (res_cell rfl rfl (run_loadVar_box 108 _ 108 _ _ _ (setRow_heap _ _ _ _ _ _ HX.out) Try.underlying108 rfl (by kernel_rfl))) rfl ⟨_, rfl, below_setRow HB1.out (by omega) _, by have := HL.out; rw [HS.out] at this; omega, by rw [cell_setRow_other _ _ _ _ (by have := HL.out; rw [HS.out] at this; simp; omega)]; exact HC.out⟩
set_option maxHeartbeats 1000000 in
theorem span_mk (p : Addr) (w : World) : Calls Try.prog 93 #[.pointer (some p)] w (Mk w .U p 4 0 65536 0) := by
  obtain ⟨W, hW⟩ : ∃ W, W = w.alloc (.cells #[.nilFunc, .nilFunc, .int .i64 0, .int .i64 0, .int .i64 0, .int .i64 0, .bool false] 108 (0, 0)) := ⟨_, rfl⟩
  have hB : Below w.heap.size w W := by rw [hW]; exact (Below.refl _ _).alloc (Nat.le_refl _) _
  have hblk : W.heap[w.heap.size]? = some (.cells #[.nilFunc, .nilFunc, .int .i64 0, .int .i64 0, .int .i64 0, .int .i64 0, .bool false] 108 (0, 0)) := by rw [hW]; exact heap_alloc_new _ _
  have hsz : W.heap.size = w.heap.size + 1 := by rw [hW]; simp
  have K := Lib.hid (wholeU_mk p 4 0 65536 W)
  have HB := Lib.hid hB
  have HK := Lib.hid hblk
  have HS := Lib.hid hsz
  have hx := hW.symm
  clear hB hW hblk hsz
  go_enter Try.func93, Try.ntmps93
  go_wp2_with (first
    | (go_at_call 94; refine K.out.mono ?_; rintro e w1 ⟨b, rfl, hb, hlt, hc⟩; simp only [Fd.v, Fd.cells]; have HB1 := Lib.hid (below_step HB.out hb); have HX := Lib.hid ((hb.block w.heap.size (by rw [HS.out]; omega)).trans HK.out); have HC := Lib.hid hc; have HL := Lib.hid hlt; clear hb hlt hc)
    | ((with_reducible refine gate_storeT 108 rfl ?_); refine wpList_store_row rfl 108 _ _ rfl _ _ rfl rfl 108 _ HX.out (by kernel_rfl) rfl (by simp [Value.oneCell']) ?_))
  exact bodyPost_ret (res_cell rfl rfl (run_loadVar_box 108 _ 108 _ _ _ (setRow_heap _ _ _ _ _ _ HX.out) Try.underlying108 rfl (by kernel_rfl))) rfl ⟨_, rfl, below_setRow HB1.out (by omega) _, by have := HL.out; rw [HS.out] at this; omega, by rw [cell_setRow_other _ _ _ _ (by have := HL.out; rw [HS.out] at this; simp; omega)]; exact HC.out⟩
theorem heap_setCell_ne {w : World} {g k : Nat} {cs : Array Value} {t : TypeId} {fr : Nat × Nat} (h : w.heap[g]? = some (.cells cs t fr)) (j : Nat) (v : Value) (hk : k ≠ g) : (w.setCell ⟨g, j, none⟩ v).heap[k]? = w.heap[k]? := by
  rw [setCell_eq_setRow w g j cs t fr v h]
  exact setRow_other w g k _ hk
theorem blk_lt {w : World} {g : Nat} {o : Obj} (h : w.heap[g]? = some o) : g < w.heap.size := (Array.getElem?_eq_some_iff.1 h).1
set_option maxHeartbeats 2000000 in
theorem shifted_mk (p : Addr) (most : Int) (hneg : wrap64 (-most) = -most) (w : World) : Calls Try.prog 100 #[.pointer (some p), .int .i64 most] w (Mk w .I p 4 (-most) most most) := by
  obtain ⟨W, hW⟩ : ∃ W, W = w.alloc (.cells #[.nilFunc, .nilFunc, .int .i64 0, .int .i64 0, .int .i64 0, .int .i64 0, .bool false] 108 (0, 0)) := ⟨_, rfl⟩
  have hB : Below w.heap.size w W := by rw [hW]; exact (Below.refl _ _).alloc (Nat.le_refl _) _
  have hblk : W.heap[w.heap.size]? = some (.cells #[.nilFunc, .nilFunc, .int .i64 0, .int .i64 0, .int .i64 0, .int .i64 0, .bool false] 108 (0, 0)) := by rw [hW]; exact heap_alloc_new _ _
  have hsz : W.heap.size = w.heap.size + 1 := by rw [hW]; simp
  have K := Lib.hid (wholeI_mk p 4 (-most) most W)
  have HB := Lib.hid hB
  have HK := Lib.hid hblk
  have HS := Lib.hid hsz
  have hx := hW.symm
  clear hB hW hblk hsz
  go_enter Try.func100, Try.ntmps100
  go_wp2_with (first
    | (go_at_call 92; refine K.out.mono ?_; rintro e w1 ⟨b, rfl, hb, hlt, hc⟩; simp only [Fd.v, Fd.cells]; have HB1 := Lib.hid (below_step HB.out hb); have HX := Lib.hid ((hb.block w.heap.size (by rw [HS.out]; omega)).trans HK.out); have HC := Lib.hid hc; have HL := Lib.hid hlt; have HSZ := Lib.hid hb.size; clear hb hlt hc)
    | ((with_reducible refine gate_storeT 108 rfl ?_); refine wpList_store_row rfl 108 _ _ rfl _ _ rfl rfl 108 _ (heap_alloc_new _ _) (by kernel_rfl) rfl (by simp [Value.oneCell']) ?_; rw [setRow_alloc])
    | ((with_reducible refine gate_storeT 108 rfl ?_); refine wpList_store_row rfl 108 _ _ rfl _ _ rfl rfl 108 _ ((Below.heap_alloc w1 _ _ (blk_lt HX.out)).trans HX.out) (by kernel_rfl) rfl (by simp [Value.oneCell']) ?_))
  exact bodyPost_ret (res_cell rfl rfl (run_loadVar_box 108 _ 108 _ _ _ (setRow_heap _ _ _ _ _ _ ((Below.heap_alloc w1 _ _ (blk_lt HX.out)).trans HX.out)) Try.underlying108 rfl (by kernel_rfl))) rfl ⟨_, rfl, below_setRow (HB1.out.alloc HB1.out.size _) (by omega) _, by have := HL.out; rw [HS.out] at this; omega, by rw [cell_setRow_other _ _ _ _ (by have := HL.out; rw [HS.out] at this; simp; omega)]; exact cap_later HC.out ((Below.refl _ _).alloc (Nat.le_refl _) _)⟩
end Go.Proofs.Ytgiokbhedblkfaa.C
