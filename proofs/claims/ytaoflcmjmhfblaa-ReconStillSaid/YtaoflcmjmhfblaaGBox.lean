/- Boxes: a store into a block that is known whole, at any offset; the world behind it is told by what its blocks hold. -/
import Derived.Test.YtaoflcmjmhfblaaGReg
import Derived.Laws.CopyRow
namespace Go.Proofs.Ytaoflcmjmhfblaa.H
open Go.RowKit Go.Proofs.YtaoflcmjmhfblaaW.PrintWords Go.Proofs.YtaoflcmjmhfblaaW.PrintLast Go.Proofs.YtaoflcmjmhfblaaW.PrintMore
set_option linter.unusedVariables false
set_option linter.unusedSimpArgs false
set_option linter.unusedSectionVars false
section
variable {P : Program} {ops : Array Oper} {Q : Exit → Act → World → Prop} {rest : List Oper} {o : Oper} {a : Act} {w w0 : World} {base : Nat}
theorem run_storeVar_seg (w : World) (g off : Nat) (t ty : TypeId) (old : Array Value) (v : Value) (vs : List Value) (hv : v.cells.toList = vs) (hg : w.heap[g]? = some (.cells old t (0, 0))) (hi : (P.info? ty).map (·.size) = some vs.length)
    (hlen : off + vs.length ≤ old.size) (h1 : ∀ x ∈ vs, x.oneCell' = true) : (storeVar ty ⟨g, off, none⟩ v).run P w = .ok () (w.setRow g (old.toList.take off ++ vs ++ old.toList.drop (off + vs.length)).toArray) := by
  have := run_storeCells_at (P := P) g off t vs 0 old w hg (by simpa using hlen) h1
  have hc : v.cells = vs.toArray := by rw [← hv]
  cases hq : P.info? ty with
  | none => simp [hq] at hi
  | some i =>
    have hs : i.size = vs.length := by simpa [hq] using hi
    simp only [Nat.add_zero] at this
    simp [storeVar, sizeOf, typeInfo, hq, hc, hs, this]
/-- A store into a block that is known whole. -/
theorem bx_store (hgd : o.guard = none) (ty : TypeId) (x y : Operand) (ho : o.op = .store ty x y) (g off : Nat) (hx : a.eval x = .pointer (some ⟨g, off, none⟩)) (v : Value) (hy : a.eval y = v) (vs : List Value) (hv : v.cells.toList = vs)
    (t : TypeId) (old : Array Value) (hg : w.heap[g]? = some (.cells old t (0, 0))) (hi : (P.info? ty).map (·.size) = some vs.length) (hlen : off + vs.length ≤ old.size) (h1 : vs.all (·.oneCell') = true)
    (new : Array Value) (hnew : (old.toList.take off ++ vs ++ old.toList.drop (off + vs.length)).toArray = new) (HB : Below base w0 w) (hb : base ≤ g)
    (h : ∀ W' : World, W'.heap[g]? = some (.cells new t (0, 0)) → W'.heap.size = w.heap.size → (∀ k, k ≠ g → W'.heap[k]? = w.heap[k]?) → Below base w0 W' → wpList P ops Q rest (a.put o.dst undef) W') : wpList P ops Q (o :: rest) a w :=
  wpList_plain hgd fun _ hK => by
    have hr := run_storeVar_seg (P := P) w g off t ty old v vs hv hg hi hlen (fun x hx => List.all_eq_true.1 h1 x hx)
    unfold Oper.wp execOp
    simp only [ho, hx, hy, Instr.storeAt, Instr.sureAddr, Sem.run_bind, Sem.run_pure, Result.andThen_ok, hr]
    rw [hnew]
    exact hK _ _ (h _ (setRow_heap w g old new t _ hg) (by simp [World.setRow]) (fun k hk => setRow_other w g k new hk) (below_setRow HB hb _))
/-- A value of one cell stored into a block that is known whole. -/
theorem bx_store1 (hgd : o.guard = none) (ty : TypeId) (x y : Operand) (ho : o.op = .store ty x y) (g off : Nat) (hx : a.eval x = .pointer (some ⟨g, off, none⟩)) (v : Value) (hy : a.eval y = v)
    (t : TypeId) (old : Array Value) (hg : w.heap[g]? = some (.cells old t (0, 0))) (hi : (P.info? ty).map (·.size) = some 1) (hlen : off < old.size) (h1 : v.oneCell' = true)
    (new : Array Value) (hnew : old.setIfInBounds off v = new) (HB : Below base w0 w) (hb : base ≤ g)
    (h : ∀ W' : World, W'.heap[g]? = some (.cells new t (0, 0)) → W'.heap.size = w.heap.size → (∀ k, k ≠ g → W'.heap[k]? = w.heap[k]?) → Below base w0 W' → wpList P ops Q rest (a.put o.dst undef) W') : wpList P ops Q (o :: rest) a w := by
  have hc : v.cells.toList = [v] := by cases v <;> first | rfl | cases h1
  refine bx_store hgd ty x y ho g off hx v hy [v] hc t old hg hi hlen (by simp [h1]) new ?_ HB hb h
  rw [← hnew]
  apply Array.ext'
  rw [Array.toList_setIfInBounds, List.set_eq_take_append_cons_drop, if_pos (by simpa using hlen)]
  simp
/-- A whole row stored into a block of as many cells. -/
theorem bx_row (hgd : o.guard = none) (ty : TypeId) (x y : Operand) (ho : o.op = .store ty x y) (g : Nat) (hx : a.eval x = .pointer (some ⟨g, 0, none⟩)) (new : Array Value) (hy : a.eval y = .agg new)
    (t : TypeId) (old : Array Value) (hg : w.heap[g]? = some (.cells old t (0, 0))) (hi : (P.info? ty).map (·.size) = some new.size) (hlen : old.size = new.size) (h1 : new.all (·.oneCell') = true)
    (HB : Below base w0 w) (hb : base ≤ g)
    (h : ∀ W' : World, W'.heap[g]? = some (.cells new t (0, 0)) → W'.heap.size = w.heap.size → (∀ k, k ≠ g → W'.heap[k]? = w.heap[k]?) → Below base w0 W' → wpList P ops Q rest (a.put o.dst undef) W') : wpList P ops Q (o :: rest) a w :=
  wpList_store_row hgd ty x y ho g new hx hy t old hg hi hlen h1 (h _ (setRow_heap w g old new t _ hg) (by simp [World.setRow]) (fun k hk => setRow_other w g k new hk) (below_setRow HB hb _))
/-- A block is laid. -/
theorem bx_alloc (o' : Obj) (HB : Below base w0 w) (hb : base ≤ w.heap.size)
    (h : ∀ W' : World, W'.heap[w.heap.size]? = some o' → W'.heap.size = w.heap.size + 1 → (∀ k, k < w.heap.size → W'.heap[k]? = w.heap[k]?) → Below base w0 W' → wpList P ops Q rest a W') : wpList P ops Q rest a (w.alloc o') :=
  h _ (heap_alloc_new w o') (by simp) (fun k hk => Below.heap_alloc w o' k hk) (HB.alloc hb _)
end
theorem heap_setCell_in {w : World} {g : Nat} {cs : Array Value} {t : TypeId} {fr : Nat × Nat} (h : w.heap[g]? = some (.cells cs t fr)) (j : Nat) (v : Value) : (w.setCell ⟨g, j, none⟩ v).heap[g]? = some (.cells (cs.setIfInBounds j v) t fr) := by
  rw [setCell_eq_setRow w g j cs t fr v h]
  exact setRow_heap w g cs _ t fr h
theorem heap_setCell_out {w : World} {g k : Nat} (j : Nat) (v : Value) (hk : k ≠ g) : (w.setCell ⟨g, j, none⟩ v).heap[k]? = w.heap[k]? := by
  simp [World.setCell, Array.getElem?_modify, Ne.symm hk]
/-- What a goal says of a world, told of whatever world of which something holds. -/
theorem gen_w {P : Program} {c : Code} {Q : Exit → Act → World → Prop} {a : Act} {w : World} (F : World → Prop) (hF : F w) (h : ∀ W, F W → c.wp P Q a W) : c.wp P Q a w := h w hF
theorem eval_tmp' (a : Act) (k : Nat) : a.tmps.getD k undef = a.eval (.tmp k) := rfl
theorem beq_dec (a b : Int) : (a == b) = decide (a = b) := rfl
theorem blk_call {w w' : World} {g : Nat} {o : Obj} (hb : Below w.heap.size w w') (h : w.heap[g]? = some o) : w'.heap[g]? = some o := (hb.block _ (blk_lt h)).trans h
theorem gen_act2 {P : Program} {c : Code} {Q : Exit → Act → World → Prop} {a : Act} {w : World} (F : Act → World → Prop) (hF : F a w) (h : ∀ a0 w0, F a0 w0 → c.wp P Q a0 w0) : c.wp P Q a w := h a w hF
end Go.Proofs.Ytaoflcmjmhfblaa.H
