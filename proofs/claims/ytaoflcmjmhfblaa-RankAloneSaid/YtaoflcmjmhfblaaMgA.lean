/- Small words that all texts of this seat share: what an ending is, what a world may have become. -/
import Derived.Test.YtaoflcmjmhfblaaProg
import Derived.WalkKit
import Derived.KernelRfl
import Derived.IntWalk
import Derived.Lib.Hide
import Derived.Deep.DeepCutAuto
import Derived.Deep.QuietTactic
import Derived.BigQuiet
import Derived.BigGuardPart
import Derived.WalkLawsBesides
import Derived.WalkSpells
import Derived.Lib.BitFns
import Derived.Lib.Strings
import Derived.Lib.Small
import Derived.Lib.Walk
import Derived.Lib.Mul64
import Derived.Deep.LoopGhost
import Derived.Test.YtaoflcmjmhfblaaWMore
import Derived.Deep.RegionWith
import Derived.Shelf.Abstract
import Derived.Laws.CopyRow
import Derived.Laws.CopyOwn
import Derived.Lib.SliceRun
import Derived.MapKept
import Derived.ChangeMaps4
import Derived.WideKeyEntry
import Derived.Maps.OwnOps
import Derived.Carry
import Derived.Orders
import Derived.StillTail
import Derived.Sort.Grow
namespace Go.Proofs.Ytaoflcmjmhfblaa.H
open Go.RowKit Go.Proofs.YtaoflcmjmhfblaaW.PrintWords Go.Proofs.YtaoflcmjmhfblaaW.PrintLast Go.Proofs.YtaoflcmjmhfblaaW.PrintMore

set_option linter.unusedVariables false
set_option linter.unusedSimpArgs false

theorem ret1 {v v' : Value} (h : v = v') : Ending.returned v = Ending.returned v' := by rw [h]
theorem ret_i {k : IntKind} {a b : Int} (h : a = b) : Ending.returned (.int k a) = .returned (.int k b) := by rw [h]
theorem ret_b {a b : Bool} (h : a = b) : Ending.returned (.bool a) = .returned (.bool b) := by rw [h]
theorem ret_t {v w v' w' : Value} (h : v = v') (k : w = w') : Ending.returned (.tuple #[v, w]) = .returned (.tuple #[v', w']) := by rw [h, k]
theorem ret_bb {a b c d : Bool} (h : a = b) (k : c = d) : Ending.returned (.tuple #[.bool a, .bool c]) = .returned (.tuple #[.bool b, .bool d]) := by rw [h, k]
theorem ret_ii {ka kb : IntKind} {a b c d : Int} (h : a = b) (k : c = d) : Ending.returned (.tuple #[.int ka a, .int kb c]) = .returned (.tuple #[.int ka b, .int kb d]) := by rw [h, k]
theorem w64 {n : Int} (h0 : -9223372036854775808 ≤ n) (h1 : n ≤ 9223372036854775807) : wrap64 n = n := by unfold wrap64; omega
theorem wu64 {n : Int} (h0 : 0 ≤ n) (h1 : n ≤ 18446744073709551615) : IntKind.u64.wrap n = n := IntWalk.u64_in n ⟨h0, h1⟩
theorem wu64m (n : Int) : IntKind.u64.wrap n = n % 18446744073709551616 := IntKind.wrap_u64 n
theorem bd_u8 {n : Int} (h : (Lit.int .u8 n).wf = true) : 0 ≤ n ∧ n ≤ 255 := by simpa [Lit.wf, IntKind.min, IntKind.max, IntKind.bits, IntKind.signed] using h
theorem bd_u16 {n : Int} (h : (Lit.int .u16 n).wf = true) : 0 ≤ n ∧ n ≤ 65535 := by simpa [Lit.wf, IntKind.min, IntKind.max, IntKind.bits, IntKind.signed] using h
theorem bd_u32 {n : Int} (h : (Lit.int .u32 n).wf = true) : 0 ≤ n ∧ n ≤ 4294967295 := by simpa [Lit.wf, IntKind.min, IntKind.max, IntKind.bits, IntKind.signed] using h
theorem bd_u64 {n : Int} (h : (Lit.int .u64 n).wf = true) : 0 ≤ n ∧ n ≤ 18446744073709551615 := by simpa [Lit.wf, IntKind.min, IntKind.max, IntKind.bits, IntKind.signed] using h
theorem bd_i64 {n : Int} (h : (Lit.int .i64 n).wf = true) : -9223372036854775808 ≤ n ∧ n ≤ 9223372036854775807 := by simpa [Lit.wf, IntKind.min, IntKind.max, IntKind.bits, IntKind.signed] using h
theorem bd_i32 {n : Int} (h : (Lit.int .i32 n).wf = true) : -2147483648 ≤ n ∧ n ≤ 2147483647 := by simpa [Lit.wf, IntKind.min, IntKind.max, IntKind.bits, IntKind.signed] using h
/-- A call that changes nothing, inside a region that draws its order. -/
theorem quiet_left {P : Program} {f : FuncId} {args : Array Value} {w : World} {n : Nat} {v : Value}
    (h : Calls P f args (w.drewN n) fun e w' => e = .returned v ∧ w.drewN n = w') : Calls P f args (w.drewN n) fun e w'' => e = .returned v ∧ ∃ m, w'' = w.drewN m :=
  h.mono fun _ _ ⟨he, hm⟩ => ⟨he, n, hm.symm⟩
/-- .. behind another such region. -/
theorem quiet_add_left {P : Program} {f : FuncId} {args : Array Value} {w : World} {a n : Nat} {v : Value}
    (h : Calls P f args (w.drewN (a + n)) fun e w' => e = .returned v ∧ w.drewN (a + n) = w') :
    Calls P f args (w.drewN (a + n)) fun e w'' => e = .returned v ∧ ∃ m, w'' = w.drewN (a + m) :=
  h.mono fun _ _ ⟨he, hm⟩ => ⟨he, n, hm.symm⟩
/-- Below the heap's old size all cells and marks read as before. -/
theorem bcell {W w1 : World} (hb : Below W.heap.size W w1) : (∀ b o, b < W.heap.size → w1.cell? ⟨b, o, none⟩ = W.cell? ⟨b, o, none⟩) ∧ (∀ b o, b < W.heap.size → w1.frozen? ⟨b, o, none⟩ = W.frozen? ⟨b, o, none⟩) :=
  ⟨fun b o h => hb.cell (p := ⟨b, o, none⟩) h, fun b o h => hb.frozen (p := ⟨b, o, none⟩) h⟩
/-- A record stored into a block that was just made. -/
theorem setRow_alloc (w : World) (old cs : Array Value) (t : TypeId) : (w.alloc (.cells old t (0, 0))).setRow w.heap.size cs = w.alloc (.cells cs t (0, 0)) := by
  unfold World.setRow World.alloc
  simp only [World.mk.injEq, and_self, true_and, and_true]
  refine Array.ext_getElem? fun i => ?_
  simp only [Array.getElem?_modify, Array.getElem?_push]
  by_cases h : i = w.heap.size
  · subst h; simp
  · have : ¬ w.heap.size = i := fun e => h e.symm
    simp [h, this]
/-- The operation is a store of this type. -/
theorem gate_storeT {P : Program} {ops : Array Oper} {rest : List Oper} {o : Oper} {a : Act} {w : World} {Q : Exit → Act → World → Prop} (ty : TypeId) {x y : Operand} (_ho : o.op = .store ty x y) (h : wpList P ops Q (o :: rest) a w) : wpList P ops Q (o :: rest) a w := h
/-- The operation is a load of this type. -/
theorem gate_load {P : Program} {ops : Array Oper} {rest : List Oper} {o : Oper} {a : Act} {w : World} {Q : Exit → Act → World → Prop} (ty : TypeId) {x : Operand} (_ho : o.op = .load ty x) (h : wpList P ops Q (o :: rest) a w) : wpList P ops Q (o :: rest) a w := h
/-- A whole record loaded out of its box, behind a guard that says yes. -/
theorem load_row_g {P : Program} {ops : Array Oper} {rest : List Oper} {o : Oper} {a : Act} {w : World} {Q : Exit → Act → World → Prop} (hw : Region.wanted o (yielded ops a.tmps) = true) (ty : TypeId) (x : Operand) (ho : o.op = .load ty x)
    (g : Nat) (hx : a.eval x = .pointer (some ⟨g, 0, none⟩)) (t : TypeId) (cs : Array Value) (fr : Nat × Nat) (d : TypeDesc) (hg : w.heap[g]? = some (.cells cs t fr))
    (hu : P.underlying ty = some d) (hd : (match d with | .struct _ | .array _ _ => true | _ => false) = true) (hi : (P.info? ty).map (·.size) = some cs.size)
    (h : wpList P ops Q rest (a.put o.dst (.agg cs)) w) : wpList P ops Q (o :: rest) a w :=
  wpList_step fun K hK => by
    rw [if_pos hw]
    exact wp_load_row ty x ho g hx t cs fr d hg hu hd hi (hK _ _ h)
end Go.Proofs.Ytaoflcmjmhfblaa.H
/- The order of texts: by length, then byte by byte. -/
namespace Go.Proofs.Ytaoflcmjmhfblaa.H
open Go.RowKit
set_option linter.unusedVariables false

def cmpI (x y : Int) : Int := if x < y then -1 else if y < x then 1 else 0
def cmpL (a b : ByteArray) : Int := if a.data.toList < b.data.toList then -1 else if b.data.toList < a.data.toList then 1 else 0
def cmpS (a b : ByteArray) : Int := if cmpI a.size b.size ≠ 0 then cmpI a.size b.size else cmpL a b

instance : Std.Antisymm (α := UInt8) (¬ · < ·) := ⟨fun a b h1 h2 => by
  apply UInt8.toNat_inj.1
  have : ¬ a.toNat < b.toNat := fun h => h1 (UInt8.lt_iff_toNat_lt.2 h)
  have : ¬ b.toNat < a.toNat := fun h => h2 (UInt8.lt_iff_toNat_lt.2 h)
  omega⟩
theorem lists_tri {l m : List UInt8} (h1 : ¬ l < m) (h2 : ¬ m < l) : l = m := List.le_antisymm h2 h1
theorem lists_irr (l : List UInt8) : ¬ l < l := List.lt_irrefl l
theorem lists_trans {l m k : List UInt8} (h1 : l < m) (h2 : m < k) : l < k := List.lt_trans h1 h2
theorem lists_asymm {l m : List UInt8} (h1 : l < m) : ¬ m < l := fun h2 => lists_irr l (lists_trans h1 h2)

theorem cmpL_range (a b : ByteArray) : cmpL a b = -1 ∨ cmpL a b = 0 ∨ cmpL a b = 1 := by
  unfold cmpL
  repeat' split
  all_goals omega
theorem cmpL_neg (a b : ByteArray) : cmpL b a = -cmpL a b := by
  unfold cmpL
  by_cases h1 : a.data.toList < b.data.toList
  · rw [if_neg (lists_asymm h1), if_pos h1, if_pos h1]; rfl
  · by_cases h2 : b.data.toList < a.data.toList
    · rw [if_pos h2, if_neg h1, if_pos h2]
    · rw [if_neg h2, if_neg h1, if_neg h1, if_neg h2]; rfl
theorem cmpL_zero {a b : ByteArray} : cmpL a b = 0 ↔ a = b := by
  unfold cmpL
  constructor
  · intro h
    split at h
    · cases h
    · split at h
      · cases h
      · rename_i h1 h2
        have := lists_tri h1 h2
        cases a; cases b; congr; exact Array.toList_inj.1 this
  · rintro rfl
    rw [if_neg (lists_irr _), if_neg (lists_irr _)]
theorem cmpL_lt {a b : ByteArray} : cmpL a b < 0 ↔ a.data.toList < b.data.toList := by
  unfold cmpL
  constructor
  · intro h
    split at h
    · assumption
    · split at h <;> omega
  · intro h; rw [if_pos h]; decide
theorem cmpS_neg (a b : ByteArray) : cmpS b a = -cmpS a b := by
  unfold cmpS
  have := cmpL_neg a b
  unfold cmpI
  repeat' split
  all_goals omega
theorem cmpS_range (a b : ByteArray) : -1 ≤ cmpS a b ∧ cmpS a b ≤ 1 := by
  unfold cmpS
  have := cmpL_range a b
  unfold cmpI
  repeat' split
  all_goals omega
theorem cmpS_zero {a b : ByteArray} : cmpS a b = 0 ↔ a = b := by
  constructor
  · intro h
    unfold cmpS cmpI at h
    have : cmpL a b = 0 := by
      revert h
      repeat' split
      all_goals omega
    exact cmpL_zero.1 this
  · rintro rfl
    have := (cmpL_zero (a := a) (b := a)).2 rfl
    unfold cmpS cmpI
    repeat' split
    all_goals omega
theorem cmpL_trans {a b c : ByteArray} (h1 : cmpL a b ≤ 0) (h2 : cmpL b c ≤ 0) : cmpL a c ≤ 0 ∧ (cmpL a b < 0 → cmpL a c < 0) ∧ (cmpL b c < 0 → cmpL a c < 0) := by
  rcases Int.lt_or_eq_of_le h1 with h | h
  · rcases Int.lt_or_eq_of_le h2 with g | g
    · have := cmpL_lt.2 (lists_trans (cmpL_lt.1 h) (cmpL_lt.1 g))
      omega
    · obtain rfl := cmpL_zero.1 g
      omega
  · obtain rfl := cmpL_zero.1 h
    omega
theorem cmpS_trans {a b c : ByteArray} (h1 : cmpS a b ≤ 0) (h2 : cmpS b c ≤ 0) : cmpS a c ≤ 0 ∧ (cmpS a b < 0 → cmpS a c < 0) := by
  have T : cmpL a b ≤ 0 → cmpL b c ≤ 0 → cmpL a c ≤ 0 ∧ (cmpL a b < 0 → cmpL a c < 0) ∧ (cmpL b c < 0 → cmpL a c < 0) := cmpL_trans
  revert h1 h2
  unfold cmpS cmpI
  generalize cmpL a b = x at *
  generalize cmpL b c = y at *
  generalize cmpL a c = z at *
  repeat' split
  all_goals omega
end Go.Proofs.Ytaoflcmjmhfblaa.H
/- What the contracts of functions that take function values share: predicates, the first place where one holds. -/
namespace Go.Proofs.Ytaoflcmjmhfblaa.H
open Go.RowKit Go.Proofs.YtaoflcmjmhfblaaW.PrintWords Go.Proofs.YtaoflcmjmhfblaaW.PrintLast Go.Proofs.YtaoflcmjmhfblaaW.PrintMore
set_option linter.unusedVariables false
set_option linter.unusedSimpArgs false
/-- A function value (function g, what it has captured: cap) tells p of every x, in every world that has come of w by growth alone. -/
def PredW (P : Program) (g : Nat) (cap : Array Value) {α : Type} (enc : α → Value) (p : α → Bool) (w : World) : Prop :=
  ∀ (W : World) (x : α), Below w.heap.size w W → Calls P g (#[enc x] ++ cap) W fun e w' => e = .returned (.bool (p x)) ∧ Below W.heap.size W w'
theorem PredW.later {P : Program} {g : Nat} {cap : Array Value} {α : Type} {enc : α → Value} {p : α → Bool} {w w1 : World} (h : PredW P g cap enc p w) (hb : Below w.heap.size w w1) : PredW P g cap enc p w1 :=
  fun W x hW => h W x (below_step hb hW)
/-- The first place of which p holds; -1, if there is none. -/
def idxI {α : Type} (p : α → Bool) (l : List α) : Int := match l.findIdx? p with | some i => (i : Int) | none => -1
theorem idxI_hit {α : Type} (p : α → Bool) (l : List α) (k : Nat) (y : α) (hy : l[k]? = some y) (h : p y = true) (hm : ∀ j, j < k → p (l.getD j y) = false) : idxI p l = k := by
  have hk := (List.getElem?_eq_some_iff.1 hy).1
  have : l.findIdx? p = some k := by
    rw [List.findIdx?_eq_some_iff_getElem]
    refine ⟨hk, by rw [(List.getElem?_eq_some_iff.1 hy).2]; exact h, fun j hj => ?_⟩
    have := hm j hj
    rw [List.getD_eq_getElem?_getD, List.getElem?_eq_getElem (by omega)] at this
    simpa using this
  rw [idxI, this]
theorem getD_any {α : Type} (l : List α) (j : Nat) (a b : α) (h : j < l.length) : l.getD j a = l.getD j b := by
  rw [List.getD_eq_getElem?_getD, List.getD_eq_getElem?_getD, List.getElem?_eq_getElem h]; rfl
theorem idxI_miss {α : Type} (p : α → Bool) (l : List α) (z : α) (hm : ∀ j, j < l.length → p (l.getD j z) = false) : idxI p l = -1 := by
  have : l.findIdx? p = none := by
    rw [List.findIdx?_eq_none_iff]
    intro x hx
    obtain ⟨i, hi, rfl⟩ := List.mem_iff_getElem.1 hx
    have := hm i hi
    rwa [List.getD_eq_getElem?_getD, List.getElem?_eq_getElem hi] at this
  rw [idxI, this]
theorem idxI_any {α : Type} (p : α → Bool) (l : List α) : decide (0 ≤ idxI p l) = l.any p := by
  unfold idxI
  cases h : l.findIdx? p with
  | none =>
    rw [List.findIdx?_eq_none_iff] at h
    have : l.any p = false := by rw [List.any_eq_false]; intro x hx; simp [h x hx]
    rw [this]; rfl
  | some i =>
    obtain ⟨hi, hp, _⟩ := List.findIdx?_eq_some_iff_getElem.1 h
    have : l.any p = true := List.any_eq_true.2 ⟨_, List.getElem_mem hi, hp⟩
    rw [this]; show decide (0 ≤ (i : Int)) = true; exact decide_eq_true (by omega)
theorem wpList_load_any {P : Program} {ops : Array Oper} {rest : List Oper} {op : Oper} {a : Act} {w : World} {Q : Exit → Act → World → Prop} (hgd : op.guard = none) (ty : TypeId) (x : Operand) (ho : op.op = .load ty x)
    (p : Addr) (hx : a.eval x = .pointer (some p)) (cs : List Value) (d : TypeDesc) (hc : ∀ j v, cs[j]? = some v → w.cell? (p.add j) = some v)
    (hu : P.underlying ty = some d) (hd : d.isRow = true) (hi : (P.info? ty).map (·.size) = some cs.length)
    (h : wpList P ops Q rest (a.put op.dst (.agg cs.toArray)) w) : wpList P ops Q (op :: rest) a w :=
  wpList_plain hgd fun _ hK => by
    have hl : (loadCells p cs.length).run P w = .ok cs.toArray w := run_loadCells_list (P := P) w p cs hc
    have hv : (loadVar ty p).run P w = .ok (.agg cs.toArray) w := by
      cases hq : P.info? ty with
      | none => simp [hq] at hi
      | some i =>
        have hs : i.size = cs.length := by simpa [hq] using hi
        have hagg : (isAgg ty).run P w = .ok true w := by
          unfold isAgg
          rw [Sem.run_bind, run_underlying hu w]
          cases d <;> simp_all
        simp [loadVar, Sem.run_bind, hagg, sizeOf, typeInfo, hq, hs, hl]
    unfold Oper.wp execOp
    simp only [ho, hx, Instr.loadAt, Instr.sureAddr, Sem.run_bind, Sem.run_pure, Result.andThen_ok, hv]
    exact hK _ _ h

/-- clear(s[i:]) of a row of one's own: what stands ahead of i stays. -/
theorem clear_tail {α : Type} (d : Kd α) {P : Program} (t e : TypeId) (z : Value) (ht : P.underlying t = some (.slice e)) (hv : ∀ w, (zeroValue e).run P w = .ok z w) (hz : z.cells.size = d.sz) (h1 : ∀ u ∈ z.cells, u.oneCell' = true)
    {W : World} {base : Nat} {ok : Nat → Prop} {g n c : Nat} {xs : List α} (h : d.R e W base ok (.slice (some ⟨g, 0, none⟩) n c) xs) (i : Nat) (hi : i < n) :
    ∃ W', (∀ ty, (Builtin.clear_ #[t] ty #[.slice (some ⟨g, i * d.sz, none⟩) (n - i) (c - i)]).run P W = .ok (.tuple #[]) W') ∧ d.R e W' base ok (.slice (some ⟨g, 0, none⟩) i c) (xs.take i) ∧ ∀ w0, Below base w0 W → Below base w0 W' := by
  obtain ⟨hn, hnc, _⟩ := Kd.R_reads' h
  obtain ⟨h0, inner, ⟨ho1, ho2⟩, hr⟩ := h
  rcases ho2 with ⟨hvn, _⟩ | ⟨g', cap', cur, hvn, hb, hh, hnc', hcm, hcs, htk⟩
  · cases hvn
  injection hvn with ha _ hc
  injection ha with ha
  injection ha with hg
  subst hg; subst hc
  obtain ⟨m, hm⟩ : ∃ m, n - i = m + 1 := ⟨n - i - 1, by omega⟩
  have hlen : (Builtin.zeroCells z.cells (n - i)).toList.length = (n - i) * d.sz := by rw [Array.length_toList, size_zeroCells, hz]
  have hsum : i * d.sz + (n - i) * d.sz = n * d.sz := by rw [← Nat.add_mul]; congr 1; omega
  have hncs : n * d.sz ≤ c * d.sz := Nat.mul_le_mul_right _ hnc
  have hone : ∀ v ∈ (Builtin.zeroCells z.cells (n - i)).toList, v.oneCell' = true := by
    intro v hv'
    rw [Array.mem_toList_iff] at hv'
    unfold Builtin.zeroCells at hv'
    rw [Array.mem_map] at hv'
    obtain ⟨q, hq, rfl⟩ := hv'
    rw [Array.mem_range] at hq
    have hpos : 0 < z.cells.size := by
      rcases Nat.eq_zero_or_pos z.cells.size with e0 | e0
      · rw [e0] at hq; simp at hq
      · exact e0
    have hlt : q % z.cells.size < z.cells.size := Nat.mod_lt _ hpos
    rw [getElem!_pos z.cells _ hlt]
    exact h1 _ (Array.getElem_mem hlt)
  have hst := run_storeCells_at (P := P) g (i * d.sz) e (Builtin.zeroCells z.cells (n - i)).toList 0 cur W hh (by rw [hlen, hcs]; omega) hone
  obtain ⟨cs', hcs'⟩ : ∃ cs', cs' = (cur.toList.take (i * d.sz + 0) ++ (Builtin.zeroCells z.cells (n - i)).toList ++ cur.toList.drop (i * d.sz + 0 + (Builtin.zeroCells z.cells (n - i)).toList.length)).toArray := ⟨_, rfl⟩
  rw [← hcs'] at hst
  refine ⟨W.setRow g cs', fun ty => ?_, ?_, ?_⟩
  rotate_left
  · have hsz : cs'.size = c * d.sz := by
      rw [hcs']; simp only [List.size_toArray, List.length_append, List.length_take, List.length_drop, Array.length_toList]
      rw [Array.length_toList] at hlen
      rw [hlen, hcs]; omega
    have hfar : ∀ k, k ≠ g → (W.setRow g cs').heap[k]? = W.heap[k]? := fun k hk => setRow_other W g k cs' hk
    have hil : i ≤ xs.length := by omega
    refine ⟨h0, inner.take (i * d.sz), ⟨?_, .inr ⟨g, c, cs', by rw [List.length_take, Nat.min_eq_left hil], hb, setRow_heap W g cur cs' e (0, 0) hh, by rw [List.length_take]; omega, hcm, hsz, ?_⟩⟩, ?_⟩
    · rw [List.length_take, List.length_take, hr.1, Nat.min_eq_left hil, Nat.min_eq_left (Nat.mul_le_mul_right _ hil)]
    · rw [List.length_take, Nat.min_eq_left hil, hcs', ← htk, ← hn, List.take_take, Nat.min_eq_left (Nat.mul_le_mul_right _ (by omega))]
      simp only [Nat.add_zero, List.append_assoc]
      rw [List.take_append_of_le_length (by rw [List.length_take, Array.length_toList, hcs]; have := Nat.mul_le_mul_right d.sz (show i ≤ c by omega); omega), List.take_take, Nat.min_self]
    · refine ⟨by rw [List.length_take, List.length_take, hr.1, Nat.min_eq_left hil, Nat.min_eq_left (Nat.mul_le_mul_right _ hil)], fun j p hp => ?_⟩
      have hj := (List.getElem?_eq_some_iff.1 hp).1
      rw [List.length_take] at hj
      have hji : j < i := by omega
      rw [List.getElem?_take, if_pos hji] at hp
      have hM := hr.2 j p hp
      have e2 : ((inner.take (i * d.sz)).drop (j * d.sz)).take d.sz = (inner.drop (j * d.sz)).take d.sz := by
        rw [List.drop_take, List.take_take]
        congr 1
        have : j * d.sz + d.sz ≤ i * d.sz := by rw [← Nat.succ_mul]; exact Nat.mul_le_mul_right _ hji
        omega
      rw [e2]
      have ob : (Value.slice (some ⟨g, 0, none⟩) (xs.take i).length c).ownBlock = (Value.slice (some ⟨g, 0, none⟩) xs.length c).ownBlock := rfl
      refine d.M_move (fun k hk => hfar k (fun he => hk.2 ?_)) (d.M_mono (fun k hk => ⟨hk.1, by exact hk.2⟩) hM)
      rw [he]; rfl
  · intro w0 hB
    exact below_setRow hB hb _
  · rw [hm] at hst ⊢
    simp only [Builtin.clear_]
    simp [run_underlying ht, hv, hst]

theorem add_lit0 (g k : Nat) : (({ block := g, off := 0, spot := none } : Addr).add k) = ⟨g, k, none⟩ := by
  unfold Addr.add
  by_cases h : k = 0 <;> simp [h]
theorem hAD2 {α : Type} {d : Kd α} {e : Nat} {w : World} {base : Nat} {ok : Nat → Prop} {gb n c : Nat} {ad : Addr} {xs : List α} (h : ad = ⟨gb, 0, none⟩) (ho : d.R e w base ok (.slice (some ad) n c) xs) : d.R e w base ok (.slice (some ⟨gb, 0, none⟩) n c) xs := by
  subst h; exact ho
/-- A whole element is written in a row of one's own. -/
theorem storeWhole {α : Type} {P : Program} {ops : Array Oper} {o : Oper} {rest : List Oper} {a : Act} {Q : Exit → Act → World → Prop} (d : Kd α) {w0 W : World} (base : Nat) (hN : o.dst = none) (hgd : o.guard = none) (t : TypeId) (p x : Operand) (ho : o.op = .store t p x) (e : TypeId) {g n cap i : Nat} (xs : List α) (x' : α) (u : Value) (seg : List Value) (ok okp : Nat → Prop)
    (haddr : a.eval p = .pointer (some ⟨g, i * d.sz, none⟩)) (hx : a.eval x = u) (hu : u.cells.toList = seg) (ht : (P.info? t).map (·.size) = some seg.length) (h1 : ∀ q ∈ seg, q.oneCell' = true)
    (HO : d.R e W base ok (.slice (some ⟨g, 0, none⟩) n cap) xs) (hi : i < n) (hM : d.M W base okp x' seg) (hokp : ∀ k, okp k → ok k ∧ k ≠ g) (HB : Below base w0 W)
    (h : ∀ w1, d.R e w1 base ok (.slice (some ⟨g, 0, none⟩) n cap) (xs.set i x') → Below base w0 w1 → wpList P ops Q rest a w1) : wpList P ops Q (o :: rest) a W := by
  obtain ⟨c, hcl, _, hcc, _⟩ := Kd.R_elem HO x' (i : Int) (by omega) (by omega)
  have hsl : seg.length = d.sz := d.K_len (d.K_of_M hM)
  refine Kd.R_store d (w0 := w0) base hN hgd t p x ho e (i : Int) 0 xs x' u seg c ok okp haddr (by rw [Int.toNat_natCast, Nat.add_zero]) hx hu ht h1 HO (by omega) (by omega) hcl hcc (by omega) ?_ hokp HB ?_
  · rw [List.take_zero, List.nil_append, Nat.zero_add, List.drop_of_length_le (by omega), List.append_nil]
    exact hM
  · intro w1 hr hb _
    rw [Int.toNat_natCast] at hr
    exact h w1 hr hb

theorem filt_keep {α : Type} {q : α → Bool} {xs l : List α} {i j : Nat} {y : α} (ht : xs.take i = (l.take j).filter q) (hl : l[j]? = some y) (hq : q y = true) (hi : i < xs.length) : (xs.set i y).take (i + 1) = (l.take (j + 1)).filter q := by
  rw [List.take_add_one (l := l), hl, List.filter_append, ← ht, List.take_add_one, List.getElem?_set_self hi, List.take_set_of_le (Nat.le_refl i)]
  simp [hq]
theorem filt_skip {α : Type} {q : α → Bool} {zs l : List α} {j : Nat} {y : α} (ht : zs = (l.take j).filter q) (hl : l[j]? = some y) (hq : q y = false) : zs = (l.take (j + 1)).filter q := by
  rw [List.take_add_one (l := l), hl, List.filter_append, ← ht]
  simp [hq]
theorem drop_next {α : Type} {xs l : List α} {j : Nat} (h : xs.drop j = l.drop j) : xs.drop (j + 1) = l.drop (j + 1) := by
  have h1 := congrArg (List.drop 1) h
  simpa [List.drop_drop] using h1
theorem drop_set_next {α : Type} {xs l : List α} {i j : Nat} {y : α} (h : xs.drop j = l.drop j) (hij : i < j) : (xs.set i y).drop (j + 1) = l.drop (j + 1) := by
  rw [List.drop_set_of_lt (by omega)]
  exact drop_next h

theorem run_loadVar_any {P : Program} {w : World} (ty : TypeId) (p : Addr) (cs : List Value) (d : TypeDesc) (hc : ∀ j v, cs[j]? = some v → w.cell? (p.add j) = some v)
    (hu : P.underlying ty = some d) (hd : d.isRow = true) (hi : (P.info? ty).map (·.size) = some cs.length) : (loadVar ty p).run P w = .ok (.agg cs.toArray) w := by
  have hl : (loadCells p cs.length).run P w = .ok cs.toArray w := run_loadCells_list (P := P) w p cs hc
  cases hq : P.info? ty with
  | none => simp [hq] at hi
  | some i =>
    have hs : i.size = cs.length := by simpa [hq] using hi
    have hagg : (isAgg ty).run P w = .ok true w := by
      unfold isAgg
      rw [Sem.run_bind, run_underlying hu w]
      cases d <;> simp_all
    simp [loadVar, Sem.run_bind, hagg, sizeOf, typeInfo, hq, hs, hl]
theorem run_loadVar_box {P : Program} {w : World} (ty : TypeId) (g t : Nat) (cs : Array Value) (fr : Nat × Nat) (d : TypeDesc) (hg : w.heap[g]? = some (.cells cs t fr))
    (hu : P.underlying ty = some d) (hd : d.isRow = true) (hi : (P.info? ty).map (·.size) = some cs.size) : (loadVar ty ⟨g, 0, none⟩).run P w = .ok (.agg cs) w := by
  have := run_loadVar_any (P := P) (w := w) ty ⟨g, 0, none⟩ cs.toList d (fun j v hv => by
    rw [add_lit0]; simp only [World.cell?, hg]; simpa using hv) hu hd (by simpa using hi)
  simpa using this
theorem res_cell {P : Program} {w : World} {fn : Func} {tmps : Array Value} {a t : Nat} {p : Addr} {v : Value} (hf : fn.results = #[.cell a t]) (ha : tmps.getD a undef = .pointer (some p)) (hl : (loadVar t p).run P w = .ok v w) : (results fn tmps).run P w = .ok v w := by
  have ha' : tmps[a]?.getD undef = .pointer (some p) := by simpa using ha
  simp [results, hf, ha', asAddr, hl]
theorem res_cell_tmp {P : Program} {w : World} {fn : Func} {tmps : Array Value} {a t b : Nat} {p : Addr} {v : Value} (hf : fn.results = #[.cell a t, .tmp b]) (ha : tmps.getD a undef = .pointer (some p)) (hl : (loadVar t p).run P w = .ok v w) : (results fn tmps).run P w = .ok (.tuple #[v, tmps.getD b undef]) w := by
  have ha' : tmps[a]?.getD undef = .pointer (some p) := by simpa using ha
  simp [results, hf, ha', asAddr, hl]
theorem new_cell (w : World) (v : Value) (t : TypeId) : (w.alloc (.cells #[v] t (0, 0))).cell? ⟨w.heap.size, 0, none⟩ = some v := by
  have h := heap_alloc_new w (.cells #[v] t (0, 0))
  unfold World.cell?
  simp only [h]
  rfl
/-- The captured variable lies in block gb. -/
theorem cap_later {w W : World} {gb : Nat} {v : Value} (h : w.cell? ⟨gb, 0, none⟩ = some v) (hb : Below w.heap.size w W) : W.cell? ⟨gb, 0, none⟩ = some v :=
  (hb.cell (World.block_lt_of_cell? w _ h)).trans h
theorem find_idx {α : Type} (p : α → Bool) (l : List α) : (l.find? p = none ∧ idxI p l = -1) ∨ ∃ (i : Nat) (x : α), i < l.length ∧ l[i]? = some x ∧ l.find? p = some x ∧ idxI p l = i := by
  unfold idxI
  cases h : l.findIdx? p with
  | none =>
    left
    rw [List.findIdx?_eq_none_iff] at h
    exact ⟨List.find?_eq_none.2 (fun x hx => by simp [h x hx]), rfl⟩
  | some i =>
    right
    obtain ⟨hi, hp, hb⟩ := List.findIdx?_eq_some_iff_getElem.1 h
    refine ⟨i, l[i], hi, List.getElem?_eq_getElem hi, ?_, rfl⟩
    rw [List.find?_eq_some_iff_getElem]
    exact ⟨hp, i, hi, rfl, fun j hj => by have := hb j hj; simpa using this⟩
end Go.Proofs.Ytaoflcmjmhfblaa.H
/- Maps that a call makes, as lists of pairs: keys of any type whose '==' is that of a Lean type. -/
namespace Go.Proofs.Ytaoflcmjmhfblaa.H
open Go.RowKit Go.Proofs.YtaoflcmjmhfblaaW.PrintWords Go.Proofs.YtaoflcmjmhfblaaW.PrintLast Go.Proofs.YtaoflcmjmhfblaaW.PrintMore
set_option linter.unusedVariables false
set_option linter.unusedSimpArgs false
set_option linter.unusedSectionVars false
structure KeyOk (P : Program) (kt : TypeId) {κ : Type} [DecidableEq κ] (enc : κ → Value) : Prop where
  eq : ∀ (w : World) (a b : κ), (Op.equal kt (enc a) (enc b)).run P w = .ok (decide (a = b)) w
  check : ∀ (w : World) (em : Bool) (a : κ), (Instr.checkKey em 10000 kt (enc a)).run P w = .ok () w
  now : ∃ d, P.underlying kt = some d ∧ ((∀ a b, Instr.sameNow d (enc a) (enc b) = none) ∨ (∀ a b, Instr.sameNow d (enc a) (enc b) = some (decide (a = b))))
  stays : ∀ a, Instr.sameBits 10000 (enc a) (enc a) = true
section
variable {P : Program} {kt vt t : TypeId} {κ ν : Type} [DecidableEq κ] {encK : κ → Value} {encV : ν → Value}
def ents (encK : κ → Value) (encV : ν → Value) (es : List MapEntry) (l : List (κ × ν)) : Prop := es.map (fun e => (e.key, e.val)) = l.map (fun p => (encK p.1, encV p.2))
/-- Block B is a map that reads as l. -/
def MapR (encK : κ → Value) (encV : ν → Value) (w : World) (B : Nat) (l : List (κ × ν)) : Prop :=
  ∃ es clock, w.heap[B]? = some (.map es clock) ∧ ents encK encV es.toList l ∧ (∀ e ∈ es.toList, e.born < clock) ∧ (es.toList.map (·.born)).Nodup
def posL (a : κ) : List (κ × ν) → Nat → Option (Nat × ν)
  | [], _ => none
  | p :: l, i => if a = p.1 then some (i, p.2) else posL a l (i + 1)
def lookL (l : List (κ × ν)) (a : κ) : Option ν := (posL a l 0).map (·.2)
def setL (l : List (κ × ν)) (a : κ) (v : ν) : List (κ × ν) := match posL a l 0 with | some (i, _) => l.set i (a, v) | none => l ++ [(a, v)]
theorem posL_some {a : κ} : ∀ {l : List (κ × ν)} {k i : Nat} {v : ν}, posL a l k = some (i, v) → k ≤ i ∧ l[i - k]? = some (a, v)
  | [], k, i, v, h => by cases h
  | p :: l, k, i, v, h => by
    unfold posL at h
    split at h
    · rename_i e
      injection h with h; injection h with h1 h2
      subst h1; subst h2
      refine ⟨Nat.le_refl _, ?_⟩
      rw [Nat.sub_self, List.getElem?_cons_zero, e]
    · obtain ⟨h1, h2⟩ := posL_some h
      refine ⟨by omega, ?_⟩
      rw [show i - k = (i - (k + 1)) + 1 by omega, List.getElem?_cons_succ]
      exact h2
theorem posL_none {a : κ} : ∀ {l : List (κ × ν)} {k : Nat}, posL a l k = none → ∀ p ∈ l, p.1 ≠ a
  | [], k, h, p, hp => by cases hp
  | q :: l, k, h, p, hp => by
    unfold posL at h
    split at h
    · cases h
    · rename_i e
      rcases List.mem_cons.1 hp with rfl | hp
      · exact fun e2 => e e2.symm
      · exact posL_none h p hp
theorem posL_shift (a : κ) : ∀ (l : List (κ × ν)) (k : Nat), posL a l k = (posL a l 0).map (fun q => (q.1 + k, q.2))
  | [], k => rfl
  | p :: l, k => by
    unfold posL
    split
    · simp
    · rw [posL_shift a l (k + 1), posL_shift a l (0 + 1)]
      cases posL a l 0 with
      | none => rfl
      | some q => simp [Nat.add_assoc, Nat.add_comm 1 k]
theorem lookL_nil (a : κ) : lookL ([] : List (κ × ν)) a = none := rfl
theorem lookL_cons (p : κ × ν) (l : List (κ × ν)) (a : κ) : lookL (p :: l) a = if a = p.1 then some p.2 else lookL l a := by
  unfold lookL
  rw [posL]
  split
  · rfl
  · rw [posL_shift]
    cases posL a l 0 <;> rfl
theorem lookL_append (l : List (κ × ν)) (a b : κ) (v : ν) (h : ∀ p ∈ l, p.1 ≠ a) : lookL (l ++ [(a, v)]) b = if b = a then some v else lookL l b := by
  induction l with
  | nil => simp [lookL_cons, lookL_nil]
  | cons p l ih =>
    rw [List.cons_append, lookL_cons, lookL_cons, ih (fun q hq => h q (List.mem_cons_of_mem _ hq))]
    have := h p (List.mem_cons_self ..)
    by_cases e : b = p.1
    · rw [if_pos e, if_pos e, if_neg (fun e2 => this (e ▸ e2))]
    · rw [if_neg e, if_neg e]
theorem lookL_set (l : List (κ × ν)) (a b : κ) (v : ν) {i : Nat} {u : ν} (h : posL a l 0 = some (i, u)) : lookL (l.set i (a, v)) b = if b = a then some v else lookL l b := by
  induction l generalizing i with
  | nil => cases h
  | cons p l ih =>
    unfold posL at h
    split at h
    · rename_i e
      injection h with h; injection h with h1 h2
      subst h1
      rw [List.set_cons_zero, lookL_cons, lookL_cons]
      by_cases e2 : b = a
      · simp [e2]
      · rw [if_neg e2, if_neg e2, if_neg (fun e3 => e2 (e3.trans e.symm))]
    · rename_i e
      rw [posL_shift] at h
      obtain ⟨q, hq, hqe⟩ := Option.map_eq_some_iff.1 h
      injection hqe with h1 h2
      subst h1
      rw [List.set_cons_succ, lookL_cons, lookL_cons, ih (i := q.1) (by rw [hq, ← h2])]
      by_cases e2 : b = p.1
      · rw [if_pos e2, if_pos e2, if_neg (fun e3 => e (e3.symm.trans e2))]
      · rw [if_neg e2, if_neg e2]
theorem lookL_setL (l : List (κ × ν)) (a b : κ) (v : ν) : lookL (setL l a v) b = if b = a then some v else lookL l b := by
  unfold setL
  cases h : posL a l 0 with
  | none => exact lookL_append l a b v (posL_none h)
  | some q => exact lookL_set l a b v h
theorem findAsking_run (K : KeyOk P kt encK) (w : World) (a : κ) : ∀ (es : List MapEntry) (l : List (κ × ν)) (i : Nat), ents encK encV es l → (Instr.findAsking kt (encK a) es i).run P w = .ok ((posL a l i).map (fun q => (q.1, encV q.2))) w
  | [], l, i, h => by
    have : l = [] := by unfold ents at h; simpa using h.symm
    subst this
    rfl
  | e :: es, [], i, h => by unfold ents at h; simp at h
  | e :: es, p :: l, i, h => by
    unfold ents at h
    simp only [List.map_cons, List.cons.injEq, Prod.mk.injEq] at h
    obtain ⟨⟨h1, h2⟩, h3⟩ := h
    unfold Instr.findAsking
    rw [Sem.run_bind, h1, K.eq w a p.1]
    simp only [Result.andThen]
    unfold posL
    by_cases e2 : a = p.1
    · simp [e2, h2]
    · simp only [e2, decide_false, Bool.false_eq_true, if_false]
      exact findAsking_run K w a es l (i + 1) h3
theorem findNow_some {d : TypeDesc} (hd : ∀ a b : κ, Instr.sameNow d (encK a) (encK b) = some (decide (a = b))) (a : κ) : ∀ (es : List MapEntry) (l : List (κ × ν)) (i : Nat), ents encK encV es l → Instr.findNow d (encK a) es i = some ((posL a l i).map (fun q => (q.1, encV q.2)))
  | [], l, i, h => by
    have : l = [] := by unfold ents at h; simpa using h.symm
    subst this
    rfl
  | e :: es, [], i, h => by unfold ents at h; simp at h
  | e :: es, p :: l, i, h => by
    unfold ents at h
    simp only [List.map_cons, List.cons.injEq, Prod.mk.injEq] at h
    obtain ⟨⟨h1, h2⟩, h3⟩ := h
    unfold Instr.findNow
    rw [h1, hd a p.1]
    unfold posL
    by_cases e2 : a = p.1
    · simp [e2, h2]
    · simp only [e2, decide_false, if_false]
      exact findNow_some hd a es l (i + 1) h3
theorem findKey_run (K : KeyOk P kt encK) (w : World) (a : κ) (es : List MapEntry) (l : List (κ × ν)) (h : ents encK encV es l) : (Instr.findKey kt (encK a) es).run P w = .ok ((posL a l 0).map (fun q => (q.1, encV q.2))) w := by
  obtain ⟨d, hu, hd | hd⟩ := K.now
  · unfold Instr.findKey
    rw [Sem.run_bind, run_underlying hu w]
    simp only [Result.andThen]
    cases es with
    | nil =>
      have : l = [] := by unfold ents at h; simpa using h.symm
      subst this
      rfl
    | cons e es =>
      cases l with
      | nil => unfold ents at h; simp at h
      | cons p l =>
        have h' := h
        unfold ents at h
        simp only [List.map_cons, List.cons.injEq, Prod.mk.injEq] at h
        unfold Instr.findNow
        rw [h.1.1, hd a p.1]
        exact findAsking_run K w a (e :: es) (p :: l) 0 h'
  · unfold Instr.findKey
    rw [Sem.run_bind, run_underlying hu w]
    simp only [Result.andThen]
    rw [findNow_some hd a es l 0 h]
    rfl
theorem ents_len {es : List MapEntry} {l : List (κ × ν)} (h : ents encK encV es l) : es.length = l.length := by
  have := congrArg List.length h
  simpa using this
theorem ents_get {es : List MapEntry} {l : List (κ × ν)} (h : ents encK encV es l) {i : Nat} {p : κ × ν} (hp : l[i]? = some p) : ∃ e, es[i]? = some e ∧ e.key = encK p.1 ∧ e.val = encV p.2 := by
  have h1 := congrArg (fun q => q[i]?) h
  simp only [List.getElem?_map, hp, Option.map_some] at h1
  cases he : es[i]? with
  | none => rw [he] at h1; cases h1
  | some e =>
    rw [he] at h1
    simp only [Option.map_some, Option.some.injEq, Prod.mk.injEq] at h1
    exact ⟨e, rfl, h1.1, h1.2⟩
theorem MapR.lookup (K : KeyOk P kt encK) (ht : P.underlying t = some (.map kt vt)) {z : Value} (hz : ∀ w, (zeroValue vt).run P w = .ok z w) {w : World} {B : Nat} {l : List (κ × ν)} (h : MapR encK encV w B l) (a : κ) (ok : Bool) :
    (Instr.lookup t (.map (some B)) (encK a) ok).run P w = .ok (if ok then .tuple #[((lookL l a).map encV).getD z, .bool (lookL l a).isSome] else ((lookL l a).map encV).getD z) w := by
  obtain ⟨es, clock, hb, he, _, _⟩ := h
  have hf := findKey_run K w a es.toList l he
  unfold Instr.lookup
  rw [Sem.run_bind, run_underlying ht w]
  simp only [Result.andThen, Sem.run_bind, Go.MapKept.run_getObj_map hb, Sem.run_pure, K.check w _ a, hf]
  unfold lookL
  cases hp : posL a l 0 with
  | none => simp [Sem.run_bind, hz w, Result.andThen]
  | some q => simp
theorem grownBy_setBlock (w : World) (B : Nat) (o : Obj) : w.grownBy (ChangeMaps.setBlock w B o) (some B) := by
  refine ⟨rfl, rfl, rfl, by simp [ChangeMaps.setBlock], fun k hk hne => ?_⟩
  have : B ≠ k := fun e => hne (by rw [e])
  simp [ChangeMaps.setBlock, Array.getElem?_setIfInBounds, this]
theorem set_new (w : World) (B : Nat) (o o' : Obj) (hb : w.heap[B]? = some o') : (ChangeMaps.setBlock w B o).heap[B]? = some o := by
  have hlt : B < w.heap.size := by
    rcases Nat.lt_or_ge B w.heap.size with q | q
    · exact q
    · rw [Array.getElem?_eq_none q] at hb; cases hb
  simp [ChangeMaps.setBlock, hlt]
theorem stays_run (K : KeyOk P kt encK) (w : World) (a : κ) : (Instr.keyThatStays (encK a) (encK a)).run P w = .ok (encK a) w := by
  unfold Instr.keyThatStays
  rw [K.stays a]
  rfl
theorem ents_set {es : List MapEntry} {l : List (κ × ν)} (h : ents encK encV es l) {i : Nat} {a : κ} {u v : ν} (hp : l[i]? = some (a, u)) (f : MapEntry → MapEntry) (hf : ∀ e, es[i]? = some e → ((f e).key, (f e).val) = (encK a, encV v)) : ents encK encV (es.modify i f) (l.set i (a, v)) := by
  unfold ents at *
  apply List.ext_getElem?
  intro j
  rw [List.getElem?_map, List.getElem?_map, List.getElem?_modify, List.getElem?_set]
  have hj := congrArg (fun q => q[j]?) h
  simp only [List.getElem?_map] at hj
  by_cases e : i = j
  · subst e
    obtain ⟨e0, he0, _, _⟩ := ents_get h hp
    have hlt : i < l.length := (List.getElem?_eq_some_iff.1 hp).1
    simp [he0, hlt, hf e0 he0]
  · simp only [e, if_false, id_eq]
    rw [← hj]
    cases es[j]? <;> rfl
/-- The store m[a] = v. -/
theorem MapR.update (K : KeyOk P kt encK) (ht : P.underlying t = some (.map kt vt)) {w : World} {B : Nat} {l : List (κ × ν)} (h : MapR encK encV w B l) (a : κ) (v : ν) :
    ∃ w', (Instr.mapUpdate t (.map (some B)) (encK a) (encV v)).run P w = .ok () w' ∧ MapR encK encV w' B (setL l a v) ∧ w.grownBy w' (some B) := by
  obtain ⟨es, clock, hb, he, s1, s2⟩ := h
  have hf := findKey_run K w a es.toList l he
  unfold setL
  cases hp : posL a l 0 with
  | none =>
    rw [hp] at hf
    refine ⟨ChangeMaps.setBlock w B (.map (es.push { key := encK a, val := encV v, born := clock }) (clock + 1)), ?_, ⟨_, _, set_new w B _ _ hb, ?_, ?_, ?_⟩, grownBy_setBlock w B _⟩
    · simp [Instr.mapUpdate, run_underlying ht, Go.MapKept.run_getObj_map hb, K.check w false a, hf, Go.MapKept.run_setObj_map _ hb, Result.andThen, ChangeMaps.setBlock]
    · unfold ents at *
      simp [he]
    · intro e he'
      rw [Array.toList_push, List.mem_append, List.mem_singleton] at he'
      rcases he' with h1 | rfl
      · have := s1 e h1; omega
      · show clock < clock + 1; omega
    · rw [Array.toList_push, List.map_append]
      refine List.nodup_append.2 ⟨s2, by simp, fun x hx c hc e1 => ?_⟩
      simp only [List.map_cons, List.map_nil, List.mem_singleton] at hc
      obtain ⟨y, hy, rfl⟩ := List.mem_map.1 hx
      have := s1 y hy
      omega
  | some q =>
    obtain ⟨i, u⟩ := q
    rw [hp] at hf
    obtain ⟨_, hl⟩ := posL_some hp
    rw [Nat.sub_zero] at hl
    obtain ⟨e0, he0, hk0, hv0⟩ := ents_get he hl
    have hj : es[i]? = some e0 := by simpa using he0
    refine ⟨ChangeMaps.setBlock w B (.map (es.modify i fun e => { e with key := encK a, val := encV v }) clock), ?_, ⟨_, _, set_new w B _ _ hb, ?_, ?_, ?_⟩, grownBy_setBlock w B _⟩
    · simp [Instr.mapUpdate, run_underlying ht, Go.MapKept.run_getObj_map hb, K.check w false a, hf, hj, hk0, stays_run K w a, Go.MapKept.run_setObj_map _ hb, Result.andThen, ChangeMaps.setBlock]
    · rw [Array.toList_modify]
      exact ents_set he hl _ (fun e _ => rfl)
    · intro e hm
      rw [Array.toList_modify] at hm
      obtain ⟨j, hj2⟩ := List.mem_iff_getElem?.1 hm
      rw [List.getElem?_modify] at hj2
      cases hej : es.toList[j]? with
      | none => rw [hej] at hj2; simp at hj2
      | some e1 =>
        rw [hej] at hj2
        have hm1 := s1 e1 (List.mem_of_getElem? hej)
        simp only [Option.map_eq_map, Option.map_some, Option.some.injEq] at hj2
        subst hj2
        split <;> exact hm1
    · rw [Array.toList_modify]
      have : (es.toList.modify i fun e => { e with key := encK a, val := encV v }).map (·.born) = es.toList.map (·.born) := by
        apply List.ext_getElem?
        intro j
        rw [List.getElem?_map, List.getElem?_map, List.getElem?_modify]
        cases es.toList[j]? with
        | none => rfl
        | some e1 => by_cases e : i = j <;> simp [e]
      rw [this]
      exact s2
/-- m[a] is looked for (and made); its stamp. -/
theorem MapR.entry (K : KeyOk P kt encK) (ht : P.underlying t = some (.map kt vt)) {z : ν} (hz : ∀ w, (zeroValue vt).run P w = .ok (encV z) w) {w : World} {B : Nat} {l : List (κ × ν)} (h : MapR encK encV w B l) (a : κ) :
    ∃ (v : ν) (st : Nat) (w' : World), (Instr.mapEntry t (.map (some B)) (encK a)).run P w = .ok (.tuple #[encV v, goInt st]) w' ∧ v = (lookL l a).getD z ∧ MapR encK encV w' B (setL l a v) ∧ w.grownBy w' (some B) ∧
      ∀ w2 x, w2.heap[B]? = w'.heap[B]? → ∃ w3, (Instr.entryStore t (.map (some B)) (goInt st) (encV x)).run P w2 = .ok () w3 ∧ MapR encK encV w3 B (setL l a x) ∧ w2.grownBy w3 (some B) := by
  obtain ⟨es, clock, hb, he, s1, s2⟩ := h
  have hf := findKey_run K w a es.toList l he
  cases hp : posL a l 0 with
  | none =>
    rw [hp] at hf
    have hsn : ∀ v, setL l a v = l ++ [(a, v)] := fun v => by unfold setL; rw [hp]
    have hnd : ∀ v : Value, ((es.push { key := encK a, val := v, born := clock }).toList.map (·.born)).Nodup := by
      intro v
      rw [Array.toList_push, List.map_append]
      refine List.nodup_append.2 ⟨s2, by simp, fun x hx c hc e1 => ?_⟩
      simp only [List.map_cons, List.map_nil, List.mem_singleton] at hc
      obtain ⟨y, hy, rfl⟩ := List.mem_map.1 hx
      have := s1 y hy
      omega
    have hbd : ∀ v : Value, ∀ e ∈ (es.push { key := encK a, val := v, born := clock }).toList, e.born < clock + 1 := by
      intro v e he'
      rw [Array.toList_push, List.mem_append, List.mem_singleton] at he'
      rcases he' with h1 | rfl
      · have := s1 e h1; omega
      · show clock < clock + 1; omega
    have hen : ∀ v : ν, ents encK encV (es.push { key := encK a, val := encV v, born := clock }).toList (l ++ [(a, v)]) := by
      intro v
      unfold ents at *
      simp [he]
    refine ⟨z, clock, ChangeMaps.setBlock w B (.map (es.push { key := encK a, val := encV z, born := clock }) (clock + 1)), ?_, ?_, ?_, grownBy_setBlock w B _, fun w2 x hw2 => ?_⟩
    · simp [Instr.mapEntry, run_underlying ht, Go.MapKept.run_getObj_map hb, K.check w false a, hf, hz w, Go.MapKept.run_setObj_map _ hb, Result.andThen, ChangeMaps.setBlock]
    · unfold lookL; rw [hp]; rfl
    · rw [hsn]
      exact ⟨_, _, set_new w B _ _ hb, hen z, hbd _, hnd _⟩
    · rw [set_new w B _ _ hb] at hw2
      have hidx : (es.push ({ key := encK a, val := encV z, born := clock } : MapEntry)).findIdx? (fun e => ((e.born : Nat) : Int) == ((clock : Nat) : Int)) = some es.size := by
        rw [WideElems.findIdx_arr]
        exact WideElems.findIdx_born (l := (es.push ({ key := encK a, val := encV z, born := clock } : MapEntry)).toList) (j := es.size) (e0 := { key := encK a, val := encV z, born := clock }) (hnd _) (by simp)
      have hmod : (es.push ({ key := encK a, val := encV z, born := clock } : MapEntry)).modify es.size (fun e => { e with val := encV x }) = es.push { key := encK a, val := encV x, born := clock } := by
        apply Array.ext'
        rw [Array.toList_modify, Array.toList_push, Array.toList_push, ← Array.length_toList, WideElems.modify_last]
      refine ⟨ChangeMaps.setBlock w2 B (.map (es.push { key := encK a, val := encV x, born := clock }) (clock + 1)), ?_, ?_, grownBy_setBlock w2 B _⟩
      · simp [Instr.entryStore, Go.MapKept.run_getObj_map hw2, asInt, asIntOf, goInt, hidx, hmod, Go.MapKept.run_setObj_map _ hw2, Result.andThen, ChangeMaps.setBlock]
      · rw [hsn]
        exact ⟨_, _, set_new w2 B _ _ hw2, hen x, hbd _, hnd _⟩
  | some q =>
    obtain ⟨i, u⟩ := q
    rw [hp] at hf
    obtain ⟨_, hl⟩ := posL_some hp
    rw [Nat.sub_zero] at hl
    obtain ⟨e0, he0, hk0, hv0⟩ := ents_get he hl
    have hj : es[i]? = some e0 := by simpa using he0
    have hsn : ∀ v, setL l a v = l.set i (a, v) := fun v => by unfold setL; rw [hp]
    have hsame : es.modify i (fun e => { e with key := encK a }) = es := by
      apply Array.ext'
      rw [Array.toList_modify]
      apply List.ext_getElem?
      intro j
      rw [List.getElem?_modify]
      by_cases e : i = j
      · subst e
        rw [he0]
        have hk1 : e0.key = encK a := hk0
        rw [← hk1]
        simp
      · cases es.toList[j]? <;> simp [e]
    have hbn : ∀ f : MapEntry → MapEntry, (∀ e, (f e).born = e.born) → ((es.modify i f).toList.map (·.born)) = es.toList.map (·.born) := by
      intro f hf'
      rw [Array.toList_modify]
      apply List.ext_getElem?
      intro j
      rw [List.getElem?_map, List.getElem?_map, List.getElem?_modify]
      cases es.toList[j]? with
      | none => rfl
      | some e1 => by_cases e : i = j <;> simp [e, hf']
    refine ⟨u, e0.born, ChangeMaps.setBlock w B (.map es clock), ?_, ?_, ?_, grownBy_setBlock w B _, fun w2 x hw2 => ?_⟩
    · simp [Instr.mapEntry, run_underlying ht, Go.MapKept.run_getObj_map hb, K.check w false a, hf, hj, hk0, stays_run K w a, hsame, Go.MapKept.run_setObj_map _ hb, Result.andThen, ChangeMaps.setBlock]
    · unfold lookL; rw [hp]; rfl
    · rw [hsn]
      refine ⟨_, _, set_new w B _ _ hb, ?_, s1, s2⟩
      have : l.set i (a, u) = l := by
        apply List.ext_getElem?
        intro j
        rw [List.getElem?_set]
        have hlt : i < l.length := (List.getElem?_eq_some_iff.1 hl).1
        by_cases e : i = j
        · subst e; rw [if_pos rfl, if_pos hlt, hl]
        · rw [if_neg e]
      rw [this]
      exact he
    · rw [set_new w B _ _ hb] at hw2
      have hidx : es.findIdx? (fun e => ((e.born : Nat) : Int) == ((e0.born : Nat) : Int)) = some i := by
        rw [WideElems.findIdx_arr]
        exact WideElems.findIdx_born s2 he0
      refine ⟨ChangeMaps.setBlock w2 B (.map (es.modify i (fun e => { e with val := encV x })) clock), ?_, ?_, grownBy_setBlock w2 B _⟩
      · simp [Instr.entryStore, Go.MapKept.run_getObj_map hw2, asInt, asIntOf, goInt, hidx, Go.MapKept.run_setObj_map _ hw2, Result.andThen, ChangeMaps.setBlock]
      · rw [hsn]
        refine ⟨_, _, set_new w2 B _ _ hw2, ?_, ?_, ?_⟩
        · rw [Array.toList_modify]
          refine ents_set he hl _ (fun e hee => ?_)
          rw [he0] at hee
          injection hee with hee
          subst hee
          show (e0.key, encV x) = _
          rw [hk0]
        · intro e hm
          have h1 := List.mem_map_of_mem (f := (·.born)) hm
          rw [hbn (fun e => { e with val := encV x }) (fun _ => rfl)] at h1
          obtain ⟨y, hy, hye⟩ := List.mem_map.1 h1
          have := s1 y hy
          omega
        · rw [hbn (fun e => { e with val := encV x }) (fun _ => rfl)]
          exact s2
theorem MapR.made (w : World) : MapR encK encV (w.alloc (.map #[] 0)) w.heap.size ([] : List (κ × ν)) :=
  ⟨#[], 0, heap_alloc_new _ _, rfl, fun e he => by simp at he, List.nodup_nil⟩
theorem MapR.move {w w' : World} {B : Nat} {l : List (κ × ν)} (h : MapR encK encV w B l) (hw : w'.heap[B]? = w.heap[B]?) : MapR encK encV w' B l := by
  obtain ⟨es, clock, hb, r⟩ := h
  exact ⟨es, clock, hw.trans hb, r⟩
theorem MapR.lt {w : World} {B : Nat} {l : List (κ × ν)} (h : MapR encK encV w B l) : B < w.heap.size := by
  obtain ⟨es, clock, hb, r⟩ := h
  rcases Nat.lt_or_ge B w.heap.size with q | q
  · exact q
  · rw [Array.getElem?_eq_none q] at hb; cases hb
theorem MapR.later {w w' : World} {B : Nat} {l : List (κ × ν)} (h : MapR encK encV w B l) (hb : Below w.heap.size w w') : MapR encK encV w' B l := h.move (hb.block B h.lt)
end

/-- Looked up, the elements whole numbers. -/
theorem MapR.lookI {P : Program} {kt vt t : TypeId} {κ : Type} [DecidableEq κ] {encK : κ → Value} {q : IntKind} (K : KeyOk P kt encK) (ht : P.underlying t = some (.map kt vt)) (hz : ∀ w, (zeroValue vt).run P w = .ok (.int q 0) w) {w : World} {B : Nat} {l : List (κ × Int)} (h : MapR encK (Value.int q) w B l) (a : κ) :
    (Instr.lookup t (.map (some B)) (encK a) false).run P w = .ok (.int q ((lookL l a).getD 0)) w := by
  rw [h.lookup K ht hz a false]
  cases lookL l a <;> rfl
/-- A map is asked for (the operation's own law). -/
theorem wpList_lookI {P : Program} {ops : Array Oper} {rest : List Oper} {o : Oper} {a : Act} {w : World} {Q : Exit → Act → World → Prop} (hw : Region.wanted o (yielded ops a.tmps) = true) (m x : Operand) (t kt vt : TypeId) (hop : o.op = .lookup t m x false)
    {κ : Type} [DecidableEq κ] {encK : κ → Value} {q : IntKind} (K : KeyOk P kt encK) (ht : P.underlying t = some (.map kt vt)) (hz : ∀ w, (zeroValue vt).run P w = .ok (.int q 0) w) {B : Nat} {l : List (κ × Int)} (h : MapR encK (Value.int q) w B l) (k : κ) (hm : a.eval m = .map (some B)) (hx : a.eval x = encK k) (c : Int) (hc : (lookL l k).getD 0 = c)
    (hh : wpList P ops Q rest (a.put o.dst (.int q c)) w) : wpList P ops Q (o :: rest) a w :=
  wpList_step fun K' hK => by
    rw [if_pos hw]
    unfold Oper.wp execOp
    simp only [hop, hm, hx]
    have h1 := h.lookI K ht hz k
    rw [hc] at h1
    simp only [Sem.run_bind, h1, Result.andThen, Sem.run_pure]
    exact hK _ _ hh

theorem below_of_drew {w w3 : World} (h : Below w.drew.heap.size w.drew w3) : Below w.heap.size w w3 := below_step (w := w) (W := w.drew) (below_drew (Below.refl _ _)) h
end Go.Proofs.Ytaoflcmjmhfblaa.H
/- A region that draws its order, by what has been done: an invariant over the set of the operations that are done. -/
namespace Go.Proofs.Ytaoflcmjmhfblaa.H
open Go.RowKit Go.Proofs.YtaoflcmjmhfblaaW.PrintWords Go.Proofs.YtaoflcmjmhfblaaW.PrintLast Go.Proofs.YtaoflcmjmhfblaaW.PrintMore
set_option linter.unusedVariables false
set_option linter.unusedSimpArgs false
set_option linter.unusedSectionVars false
section
variable {P : Program} {ops : Array Oper} {Q : Exit → Act → World → Prop}
def doneB (n : Nat) (l : Array Bool) (i : Nat) : Bool := l.getD i false
theorem getD_set (l : Array Bool) (i j : Nat) (hi : i < l.size) : (l.setIfInBounds i true).getD j false = (if j = i then true else l.getD j false) := by
  simp only [Array.getD_eq_getD_getElem?, Array.getElem?_setIfInBounds]
  by_cases h : i = j
  · subst h; simp [hi]
  · have : ¬ j = i := fun e => h e.symm
    simp [h, this]
theorem wpAny_inv (I : (Nat → Bool) → Act → World → Prop)
    (hok : ∀ i o, ops[i]? = some o → ∀ e ∈ o.after, Region.binds .any e = true → e.on < i)
    (hstep : ∀ (L : Nat → Bool) (i : Nat) (o : Oper) (a : Act) (w : World), I L a w → ops[i]? = some o → L i = false → (∀ e ∈ o.after, Region.binds .any e = true → L e.on = true) →
      if Region.wanted o (yielded ops a.tmps) then o.wp P a w (fun a' w' => I (fun j => if j = i then true else L j) a' w') Q else I (fun j => if j = i then true else L j) (a.put o.dst undef) w)
    (hend : ∀ L a w, I L a w → (∀ i, i < ops.size → L i = true) → Q .normal a w) :
    ∀ (fuel : Nat) (listed : Array Bool) (a : Act) (w : World), listed.size = ops.size → ((List.range ops.size).filter (fun i => !listed.getD i true)).length ≤ fuel → I (fun j => listed.getD j false) a w → wpAny P .any ops Q fuel listed a w := by
  have hready : ∀ listed : Array Bool, listed.size = ops.size → Region.ready .any ops listed = [] → ∀ i, i < ops.size → listed.getD i false = true := by
    intro listed hs hr i
    induction i using Nat.strongRecOn with
    | _ i ih =>
      intro hi
      cases hl : listed.getD i false with
      | true => rfl
      | false =>
        exfalso
        have hmem : i ∈ Region.ready .any ops listed := by
          unfold Region.ready
          rw [List.mem_filter]
          refine ⟨List.mem_range.2 hi, ?_⟩
          have hlt : i < listed.size := by omega
          have h1 : listed.getD i true = false := by
            simp only [Array.getD_eq_getD_getElem?, Array.getElem?_eq_getElem hlt, Option.getD_some] at hl ⊢
            exact hl
          rw [h1]
          simp only [Bool.not_false, Bool.true_and]
          rw [Array.getElem?_eq_getElem hi]
          simp only [Option.map_some, Option.getD_some, Array.all_eq_true_iff_forall_mem]
          intro e he
          cases hb : Region.binds .any e with
          | false => rfl
          | true =>
            have := ih e.on (hok i _ (Array.getElem?_eq_getElem hi) e he hb) (by have := hok i _ (Array.getElem?_eq_getElem hi) e he hb; omega)
            simp [this]
        rw [hr] at hmem
        cases hmem
  intro fuel
  induction fuel with
  | zero =>
    intro listed a w hs hf hI
    have hall : ∀ i, i < ops.size → listed.getD i false = true := by
      intro i hi
      have h0 : (List.range ops.size).filter (fun i => !listed.getD i true) = [] := List.eq_nil_of_length_eq_zero (by omega)
      rw [List.filter_eq_nil_iff] at h0
      have h1 := h0 i (List.mem_range.2 hi)
      have hlt : i < listed.size := by omega
      simp only [Array.getD_eq_getD_getElem?, Array.getElem?_eq_getElem hlt, Option.getD_some] at h1 ⊢
      simpa using h1
    refine ⟨?_, hend _ a w hI hall⟩
    unfold Region.ready
    rw [List.filter_eq_nil_iff]
    intro i hi
    have hlt : i < listed.size := by rw [hs]; exact List.mem_range.1 hi
    have h1 := hall i (List.mem_range.1 hi)
    have h2 : listed.getD i true = true := by
      simp only [Array.getD_eq_getD_getElem?, Array.getElem?_eq_getElem hlt, Option.getD_some] at h1 ⊢
      exact h1
    rw [h2]
    simp
  | succ fuel ih =>
    intro listed a w hs hf hI
    refine ⟨fun hr => hend _ a w hI (hready listed hs hr), fun i hi => ?_⟩
    unfold Region.ready at hi
    rw [List.mem_filter] at hi
    obtain ⟨hi1, hi2⟩ := hi
    have hlt := List.mem_range.1 hi1
    have hlt2 : i < listed.size := by omega
    rw [Array.getElem?_eq_getElem hlt] at hi2
    simp only [Option.map_some, Option.getD_some, Bool.and_eq_true, Bool.not_eq_true', Array.all_eq_true_iff_forall_mem] at hi2
    obtain ⟨hi3, hi4⟩ := hi2
    have hL : listed.getD i false = false := by
      simp only [Array.getD_eq_getD_getElem?, Array.getElem?_eq_getElem hlt2, Option.getD_some] at hi3 ⊢
      exact hi3
    have hs' := hstep _ i ops[i] a w hI (Array.getElem?_eq_getElem hlt) hL (fun e he hb => by
      have := hi4 e he
      rw [hb] at this
      simpa using this)
    have hfun : (fun j => if j = i then true else listed.getD j false) = (fun j => (listed.setIfInBounds i true).getD j false) := by
      funext j
      rw [getD_set listed i j hlt2]
    have hcount : ((List.range ops.size).filter (fun j => !(listed.setIfInBounds i true).getD j true)).length ≤ fuel := by
      have hsub : ((List.range ops.size).filter (fun j => !(listed.setIfInBounds i true).getD j true)).length < ((List.range ops.size).filter (fun j => !listed.getD j true)).length := by
        have e1 : (List.range ops.size).filter (fun j => !(listed.setIfInBounds i true).getD j true) = ((List.range ops.size).filter (fun j => !listed.getD j true)).filter (fun j => j != i) := by
          rw [List.filter_filter]
          refine List.filter_congr (fun j hj => ?_)
          have hj2 : j < listed.size := by rw [hs]; exact List.mem_range.1 hj
          simp only [Array.getD_eq_getD_getElem?, Array.getElem?_setIfInBounds]
          by_cases h : i = j
          · subst h; simp [hj2]
          · have : ¬ j = i := fun e => h e.symm
            simp [h, this]
        rw [e1]
        refine List.length_filter_lt_length_iff_exists.2 ⟨i, ?_, by simp⟩
        rw [List.mem_filter]
        exact ⟨hi1, by rw [hi3]; rfl⟩
      omega
    unfold wpOp
    rw [Array.getElem?_eq_getElem hlt]
    simp only
    have hgo : ∀ a' w', I (fun j => if j = i then true else listed.getD j false) a' w' → wpAny P .any ops Q fuel (listed.setIfInBounds i true) a' w' := by
      intro a' w' h'
      rw [hfun] at h'
      exact ih _ a' w' (by rw [Array.size_setIfInBounds]; exact hs) hcount h'
    by_cases hw : Region.wanted ops[i] (yielded ops a.tmps) = true
    · rw [if_pos hw] at hs' ⊢
      exact .inl (Oper.wp_mono hgo hs')
    · rw [if_neg hw] at hs' ⊢
      exact hgo _ _ hs'
/-- A REGION THAT DRAWS ITS ORDER: what holds of the operations that are done holds at the end of all. -/
theorem wp_region_inv {id : Nat} {a : Act} {w : World} (hm : P.follows .mixedOrders = true) (I : (Nat → Bool) → Act → World → Prop)
    (hok : ops.toList.zipIdx.all (fun (o, i) => o.after.all fun e => !Region.binds .any e || decide (e.on < i)) = true)
    (h0 : I (fun _ => false) a w.drew)
    (hstep : ∀ (L : Nat → Bool) (i : Nat) (o : Oper) (a : Act) (w : World), I L a w → ops[i]? = some o → L i = false → (∀ e ∈ o.after, Region.binds .any e = true → L e.on = true) →
      if Region.wanted o (yielded ops a.tmps) then o.wp P a w (fun a' w' => I (fun j => if j = i then true else L j) a' w') Q else I (fun j => if j = i then true else L j) (a.put o.dst undef) w)
    (hend : ∀ L a w, I L a w → (∀ i, i < ops.size → L i = true) → Q .normal a w) : (Code.region id ops true).wp P Q a w := by
  refine wp_region_any hm (wpAny_inv I ?_ hstep hend _ _ _ _ (by simp) ?_ ?_)
  · intro i o ho e he hb
    rw [List.all_eq_true] at hok
    have hmem : (o, i) ∈ ops.toList.zipIdx := by
      rw [List.mem_zipIdx_iff_getElem?]
      simpa using ho
    have h1 := hok _ hmem
    simp only [Array.all_eq_true_iff_forall_mem] at h1
    have h2 := h1 e he
    rw [hb] at h2
    simpa using h2
  · refine Nat.le_trans (List.length_filter_le _ _) ?_
    simp
  · have : (fun j => (Array.replicate ops.size false).getD j false) = (fun _ : Nat => false) := by
      funext j
      simp only [Array.getD_eq_getD_getElem?, Array.getElem?_replicate]
      split <;> rfl
    rw [this]
    exact h0
end

/-- An operation of a region, if it is wanted, and if not. -/
def StepOk (P : Program) (ops : Array Oper) (o : Oper) (a : Act) (w : World) (K : Act → World → Prop) (Q : Exit → Act → World → Prop) : Prop :=
  (Region.wanted o (yielded ops a.tmps) = true → o.wp P a w K Q) ∧ (Region.wanted o (yielded ops a.tmps) = false → K (a.put o.dst undef) w)
theorem StepOk.ite {P : Program} {ops : Array Oper} {o : Oper} {a : Act} {w : World} {K : Act → World → Prop} {Q : Exit → Act → World → Prop} (h : StepOk P ops o a w K Q) :
    if Region.wanted o (yielded ops a.tmps) then o.wp P a w K Q else K (a.put o.dst undef) w := by
  by_cases hw : Region.wanted o (yielded ops a.tmps) = true
  · rw [if_pos hw]; exact h.1 hw
  · rw [if_neg hw]; exact h.2 (Bool.eq_false_iff.2 hw)
theorem StepOk.of_ite {P : Program} {ops : Array Oper} {o : Oper} {a : Act} {w : World} {K : Act → World → Prop} {Q : Exit → Act → World → Prop} (h : if Region.wanted o (yielded ops a.tmps) then o.wp P a w K Q else K (a.put o.dst undef) w) : StepOk P ops o a w K Q := by
  by_cases hw : Region.wanted o (yielded ops a.tmps) = true
  · rw [if_pos hw] at h; exact ⟨fun _ => h, fun h2 => absurd hw (by rw [h2]; decide)⟩
  · rw [if_neg hw] at h; exact ⟨fun h2 => absurd h2 hw, fun _ => h⟩
/-- The same, the invariant told of the frame that the region begins with. -/
theorem wp_region_inv_at {P : Program} {ops : Array Oper} {Q : Exit → Act → World → Prop} {id : Nat} {a : Act} {w : World} (hm : P.follows .mixedOrders = true) (I : Act → (Nat → Bool) → Act → World → Prop)
    (hok : ops.toList.zipIdx.all (fun (o, i) => o.after.all fun e => !Region.binds .any e || decide (e.on < i)) = true)
    (h0 : I a (fun _ => false) a w.drew)
    (hstep : ∀ (L : Nat → Bool) (i : Nat) (o : Oper) (a' : Act) (w : World) (K : Act → World → Prop), I a L a' w → ops[i]? = some o → L i = false → (∀ e ∈ o.after, Region.binds .any e = true → L e.on = true) → (∀ a'' w', I a (fun j => if j = i then true else L j) a'' w' → K a'' w') → StepOk P ops o a' w K Q)
    (hend : ∀ L a' w, I a L a' w → (∀ i, i < ops.size → L i = true) → Q .normal a' w) : (Code.region id ops true).wp P Q a w :=
  wp_region_inv hm (I a) hok h0 (fun L i o a' w hI ho hL he => (hstep L i o a' w _ hI ho hL he (fun _ _ h => h)).ite) hend
/-- Some slots of a frame are set. -/
def setA (a : Act) (l : List (Nat × Value)) : Act := { a with tmps := l.foldl (fun t p => t.setIfInBounds p.1 p.2) a.tmps }

section
variable {P : Program} {ops : Array Oper} {Q : Exit → Act → World → Prop} {K : Act → World → Prop} {o : Oper} {a : Act} {w w' : World}
def setF (t : Array Value) (p : Nat × Value) : Array Value := t.setIfInBounds p.1 p.2
theorem setA_tmps (a : Act) (l : List (Nat × Value)) : (setA a l).tmps = l.foldl setF a.tmps := rfl
theorem foldl_set_comm (k : Nat) (v : Value) : ∀ (l : List (Nat × Value)) (t : Array Value), (∀ p ∈ l, p.1 ≠ k) → (l.foldl setF t).setIfInBounds k v = l.foldl setF (t.setIfInBounds k v)
  | [], t, _ => rfl
  | p :: l, t, h => by
    rw [List.foldl_cons, List.foldl_cons, foldl_set_comm k v l _ (fun q hq => h q (List.mem_cons_of_mem _ hq))]
    congr 1
    unfold setF
    exact Array.setIfInBounds_comm _ _ (h p (List.mem_cons_self ..))
theorem foldl_get_out (k : Nat) : ∀ (l : List (Nat × Value)) (t : Array Value), (∀ p ∈ l, p.1 ≠ k) → (l.foldl setF t)[k]? = t[k]?
  | [], t, _ => rfl
  | p :: l, t, h => by
    rw [List.foldl_cons, foldl_get_out k l _ (fun q hq => h q (List.mem_cons_of_mem _ hq))]
    unfold setF
    rw [Array.getElem?_setIfInBounds_ne (h p (List.mem_cons_self ..))]
theorem foldl_size : ∀ (l : List (Nat × Value)) (t : Array Value), (l.foldl setF t).size = t.size
  | [], t => rfl
  | p :: l, t => by rw [List.foldl_cons, foldl_size l]; unfold setF; simp
theorem setA_out {l : List (Nat × Value)} {k : Nat} (h : ∀ p ∈ l, p.1 ≠ k) : (setA a l).eval (.tmp k) = a.eval (.tmp k) := by
  simp only [Act.eval, setA_tmps, Array.getD_eq_getD_getElem?, foldl_get_out k l _ h]
theorem setA_in : ∀ {l : List (Nat × Value)} {a : Act} {k i : Nat} {v : Value}, k < a.tmps.size → l[i]? = some (k, v) → (l.map (·.1)).Nodup → (setA a l).eval (.tmp k) = v
  | [], a, k, i, v, _, h, _ => by simp at h
  | p :: l, a, k, i, v, hk, h, hn => by
    rw [List.map_cons, List.nodup_cons] at hn
    cases i with
    | zero =>
      rw [List.getElem?_cons_zero] at h
      obtain rfl := Option.some.inj h
      have hne : ∀ q ∈ l, q.1 ≠ k := fun q hq e => hn.1 (List.mem_map.2 ⟨q, hq, e⟩)
      simp only [Act.eval, setA_tmps, List.foldl_cons, Array.getD_eq_getD_getElem?, foldl_get_out k l _ hne]
      unfold setF
      simp [hk]
    | succ i =>
      rw [List.getElem?_cons_succ] at h
      exact setA_in (a := { a with tmps := setF a.tmps p }) (by show k < (setF a.tmps p).size; unfold setF; simpa using hk) h hn.2
theorem setA_put : ∀ {l : List (Nat × Value)} {a : Act} {k i : Nat} {u : Value} (v : Value), l[i]? = some (k, u) → (l.map (·.1)).Nodup → (setA a l).put (some k) v = setA a (l.set i (k, v))
  | [], a, k, i, u, v, h, _ => by simp at h
  | p :: l, a, k, i, u, v, h, hn => by
    rw [List.map_cons, List.nodup_cons] at hn
    cases i with
    | zero =>
      rw [List.getElem?_cons_zero] at h
      obtain rfl := Option.some.inj h
      have hne : ∀ q ∈ l, q.1 ≠ k := fun q hq e => hn.1 (List.mem_map.2 ⟨q, hq, e⟩)
      rw [List.set_cons_zero]
      show ({ tmps := (l.foldl setF (setF a.tmps (k, u))).setIfInBounds k v, defers := a.defers } : Act) = { tmps := l.foldl setF (setF a.tmps (k, v)), defers := a.defers }
      rw [foldl_set_comm k v l _ hne]
      congr 2
      unfold setF
      simp
    | succ i =>
      rw [List.getElem?_cons_succ] at h
      rw [List.set_cons_succ]
      exact setA_put (a := { a with tmps := setF a.tmps p }) v h hn.2
theorem setA_same : ∀ (l : List (Nat × Value)) (a : Act), (∀ p ∈ l, a.tmps[p.1]? = some p.2) → setA a l = a
  | [], a, _ => rfl
  | p :: l, a, h => by
    have e : setF a.tmps p = a.tmps := by
      have hp := h p (List.mem_cons_self ..)
      unfold setF
      apply Array.ext_getElem?
      intro j
      rw [Array.getElem?_setIfInBounds]
      by_cases hj : p.1 = j
      · subst hj
        have hlt := (Array.getElem?_eq_some_iff.1 hp).1
        rw [if_pos rfl, if_pos hlt, hp]
      · rw [if_neg hj]
    have := setA_same l a (fun q hq => h q (List.mem_cons_of_mem _ hq))
    show ({ tmps := l.foldl setF (setF a.tmps p), defers := a.defers } : Act) = a
    rw [e]
    exact this
/-- An operation that yields a value. -/
theorem stp {v : Value} (hg : o.guard = none) (hrun : (execOp a.eval o).run P w = .ok (.value v) w') (h : K (a.put o.dst v) w') : StepOk P ops o a w K Q := by
  refine ⟨fun _ => ?_, fun h2 => absurd h2 (by simp [Region.wanted, hg])⟩
  unfold Oper.wp
  rw [hrun]
  exact h
theorem stp_move {x : Operand} (hg : o.guard = none) (hop : o.op = .move x ∨ o.op = .assign x) (h : K (a.put o.dst (a.eval x)) w) : StepOk P ops o a w K Q := by
  refine stp (w' := w) hg ?_ h
  rcases hop with hop | hop <;> simp [execOp, hop]
theorem stp_call {f : FuncId} {fn : Func} {xs : Array Operand} {ts : Array TypeId} {args : Array Value} (hg : o.guard = none) (hf : P.funcs[f]? = some fn) (hname : (fn.name == "runtime.NumGoroutine") = false) (hb : fn.body.isSome = true)
    (hop : o.op = .call { callee := .value (.func f), args := xs, argTypes := ts }) (hargs : xs.map a.eval = args)
    (h : Calls P f args w fun e w' => ∃ v, e = .returned v ∧ K (a.put o.dst v) w') : StepOk P ops o a w K Q := by
  refine ⟨fun _ => ?_, fun h2 => absurd h2 (by simp [Region.wanted, hg])⟩
  have he := enters_ hf hname hb args w
  have hrun : (execOp a.eval o).run P w = .ok (.enter f args) w := by
    unfold execOp
    simp [hop, resolve, Deferred.ofValue, invoke, Act.eval, hargs, he]
  unfold Oper.wp
  rw [hrun, Oper.upon_enter]
  refine h.mono fun e w'' hh => ?_
  obtain ⟨v, rfl, hk⟩ := hh
  exact hk
theorem stp_load {ty : TypeId} {x : Operand} {g t : Nat} {cs : Array Value} {fr : Nat × Nat} {d : TypeDesc} (hg : o.guard = none) (hop : o.op = .load ty x) (hx : a.eval x = .pointer (some ⟨g, 0, none⟩)) (hb : w.heap[g]? = some (.cells cs t fr))
    (hu : P.underlying ty = some d) (hd : d.isRow = true) (hi : (P.info? ty).map (·.size) = some cs.size) (h : K (a.put o.dst (.agg cs)) w) : StepOk P ops o a w K Q := by
  refine stp (w' := w) hg ?_ h
  have hv := run_loadVar_box (P := P) (w := w) ty g t cs fr d hb hu hd hi
  unfold execOp
  simp only [hop, hx, Instr.loadAt, Instr.sureAddr, Sem.run_bind, Sem.run_pure, Result.andThen_ok, hv]
end

/-- An operation that yields a value, told of one operand. -/
theorem stp1 {P : Program} {ops : Array Oper} {Q : Exit → Act → World → Prop} {K : Act → World → Prop} {o : Oper} {a : Act} {w w' : World} {v : Value} (x : Operand) (u : Value) (hg : o.guard = none) (hx : a.eval x = u) (hrun : ∀ ρ : Operand → Value, (∀ v, ρ (.const v) = v) → ρ x = u → (execOp ρ o).run P w = .ok (.value v) w') (h : K (a.put o.dst v) w') : StepOk P ops o a w K Q :=
  stp hg (hrun _ (fun _ => rfl) hx) h
theorem setA_self (a : Act) (ks : List Nat) (h : ∀ k ∈ ks, k < a.tmps.size) : a = setA a (ks.map fun k => (k, a.eval (.tmp k))) := by
  refine (setA_same _ a ?_).symm
  intro p hp
  obtain ⟨k, hk, rfl⟩ := List.mem_map.1 hp
  have := h k hk
  simp [Act.eval, Array.getD_eq_getD_getElem?, this]
theorem gen_act {P : Program} {c : Code} {Q : Exit → Act → World → Prop} {a : Act} {w : World} (F : Act → Prop) (hF : F a) (h : ∀ a0, F a0 → c.wp P Q a0 w) : c.wp P Q a w := h a hF
end Go.Proofs.Ytaoflcmjmhfblaa.H
/- A region that draws its order and fills a map with a table: the values that are known, the map that it has become. -/
namespace Go.Proofs.Ytaoflcmjmhfblaa.H
open Go.RowKit Go.Proofs.YtaoflcmjmhfblaaW.PrintWords Go.Proofs.YtaoflcmjmhfblaaW.PrintLast Go.Proofs.YtaoflcmjmhfblaaW.PrintMore
set_option linter.unusedVariables false
set_option linter.unusedSimpArgs false
set_option linter.unusedSectionVars false
/-- What is done behind one operation more. -/
def addL (L : Nat → Bool) (i : Nat) : Nat → Bool := fun j => if j = i then true else L j
theorem addL_self (L : Nat → Bool) (i : Nat) : addL L i i = true := by simp [addL]
theorem addL_ne (L : Nat → Bool) {i j : Nat} (h : j ≠ i) : addL L i j = L j := by simp [addL, h]
theorem addL_out (L : Nat → Bool) {α : Type} {f : α → Nat} {l : List α} {p : α} {i q : Nat} (hp : p ∈ l) (hi : i ∉ l.map f) (hq : f p = q) : addL L i q = L q :=
  addL_ne L (fun e => hi (List.mem_map.2 ⟨p, hp, hq.trans e⟩))
theorem put_eval_same {a : Act} {s : Nat} {v : Value} (h : s < a.tmps.size) : (a.put (some s) v).eval (.tmp s) = v := by
  simp [Act.put, Act.eval, Array.getD_eq_getD_getElem?, h]
theorem put_eval_ne {a : Act} {s k : Nat} {v : Value} (h : k ≠ s) : (a.put (some s) v).eval (.tmp k) = a.eval (.tmp k) := by
  simp only [Act.put, Act.eval, Array.getD_eq_getD_getElem?]
  rw [Array.getElem?_setIfInBounds_ne (fun e => h e.symm)]
theorem put_size {a : Act} {s : Nat} {v : Value} : (a.put (some s) v).tmps.size = a.tmps.size := by simp [Act.put]
theorem put_defers {a : Act} {s : Nat} {v : Value} : (a.put (some s) v).defers = a.defers := rfl
/-- The values of the operations that are done: E has an operation, its slot, its value; ks: all slots that the region writes. -/
structure VInv (E : List (Nat × Nat × Value)) (ks : List Nat) (a0 : Act) (L : Nat → Bool) (a : Act) : Prop where
  size : a.tmps.size = a0.tmps.size
  defers : a.defers = a0.defers
  keep : ∀ k, k ∉ ks → a.eval (.tmp k) = a0.eval (.tmp k)
  vals : ∀ p ∈ E, L p.1 = true → a.eval (.tmp p.2.1) = p.2.2
theorem VInv.start (E : List (Nat × Nat × Value)) (ks : List Nat) (a0 : Act) : VInv E ks a0 (fun _ => false) a0 := ⟨rfl, rfl, (fun _ _ => rfl), (fun _ _ h => by cases h)⟩
theorem VInv.get {E : List (Nat × Nat × Value)} {ks : List Nat} {a0 a : Act} {L : Nat → Bool} (h : VInv E ks a0 L a) (j : Nat) {i s : Nat} {v : Value} (hj : E[j]? = some (i, s, v)) (hL : L i = true) : a.eval (.tmp s) = v :=
  h.vals _ (List.mem_of_getElem? hj) hL
theorem nodup_get {α β : Type} (f : α → β) {l : List α} (hn : (l.map f).Nodup) {x y : α} (hx : x ∈ l) (hy : y ∈ l) (he : f x = f y) : x = y := by
  induction l with
  | nil => cases hx
  | cons z r ih =>
    rw [List.map_cons, List.nodup_cons] at hn
    rcases List.mem_cons.1 hx with ex | hx <;> rcases List.mem_cons.1 hy with ey | hy
    · rw [ex, ey]
    · exact absurd (List.mem_map.2 ⟨y, hy, he.symm.trans (by rw [ex])⟩) hn.1
    · exact absurd (List.mem_map.2 ⟨x, hx, he.trans (by rw [ey])⟩) hn.1
    · exact ih hn.2 hx hy
/-- A known value is put. -/
theorem VInv.put {E : List (Nat × Nat × Value)} {ks : List Nat} {a0 a : Act} {L : Nat → Bool} (h : VInv E ks a0 L a) (hn : (E.map (·.1)).Nodup) (hs : (E.map (·.2.1)).Nodup) (j : Nat) {i s : Nat} {v : Value} (hj : E[j]? = some (i, s, v)) (hk : s ∈ ks) (hz : s < a0.tmps.size) : VInv E ks a0 (addL L i) (a.put (some s) v) where
  size := put_size.trans h.size
  defers := h.defers
  keep k hk2 := (put_eval_ne (fun e => hk2 (by rw [e]; exact hk))).trans (h.keep k hk2)
  vals p hp hL := by
    have hm := List.mem_of_getElem? hj
    by_cases e : p.1 = i
    · have := nodup_get (·.1) hn hp hm e
      subst this
      exact put_eval_same (by rw [h.size]; exact hz)
    · rw [addL_ne L e] at hL
      have hne : p.2.1 ≠ s := fun e2 => e (by have := nodup_get (·.2.1) hs hp hm e2; subst this; rfl)
      exact (put_eval_ne hne).trans (h.vals p hp hL)
/-- Another slot is put, by an operation that is not in E. -/
theorem VInv.other {E : List (Nat × Nat × Value)} {ks : List Nat} {a0 a : Act} {L : Nat → Bool} (h : VInv E ks a0 L a) {i s : Nat} {v : Value} (hi : i ∉ E.map (·.1)) (hs : s ∉ E.map (·.2.1)) (hk : s ∈ ks) : VInv E ks a0 (addL L i) (a.put (some s) v) where
  size := put_size.trans h.size
  defers := h.defers
  keep k hk2 := (put_eval_ne (fun e => hk2 (by rw [e]; exact hk))).trans (h.keep k hk2)
  vals p hp hL := by
    have e : p.1 ≠ i := fun e => hi (e ▸ List.mem_map.2 ⟨p, hp, rfl⟩)
    rw [addL_ne L e] at hL
    have hne : p.2.1 ≠ s := fun e2 => hs (List.mem_map.2 ⟨p, hp, e2⟩)
    exact (put_eval_ne hne).trans (h.vals p hp hL)
/-- Nothing is put, by an operation that is not in E. -/
theorem VInv.skip {E : List (Nat × Nat × Value)} {ks : List Nat} {a0 a : Act} {L : Nat → Bool} (h : VInv E ks a0 L a) {i : Nat} (hi : i ∉ E.map (·.1)) : VInv E ks a0 (addL L i) a where
  size := h.size
  defers := h.defers
  keep := h.keep
  vals p hp hL := by
    have e : p.1 ≠ i := fun e => hi (e ▸ List.mem_map.2 ⟨p, hp, rfl⟩)
    rw [addL_ne L e] at hL
    exact h.vals p hp hL
section
variable {κ ν : Type} [DecidableEq κ] {encK : κ → Value} {encV : ν → Value}
/-- What the rows of a table that are done tell of a key. -/
def tabL (L : Nat → Bool) : List (Nat × κ × ν) → κ → Option ν
  | [], _ => none
  | p :: r, b => if L p.1 = true ∧ b = p.2.1 then some p.2.2 else tabL L r b
theorem tabL_none {L : Nat → Bool} {b : κ} : ∀ {T : List (Nat × κ × ν)}, (∀ p ∈ T, L p.1 = false) → tabL L T b = none
  | [], _ => rfl
  | p :: r, h => by
    unfold tabL
    rw [if_neg (fun e => by have := h p (List.mem_cons_self ..); rw [e.1] at this; cases this)]
    exact tabL_none (fun q hq => h q (List.mem_cons_of_mem _ hq))
theorem tabL_same {L L' : Nat → Bool} {b : κ} : ∀ {T : List (Nat × κ × ν)}, (∀ p ∈ T, L' p.1 = L p.1 ∨ b ≠ p.2.1) → tabL L' T b = tabL L T b
  | [], _ => rfl
  | p :: r, h => by
    unfold tabL
    rw [tabL_same (fun q hq => h q (List.mem_cons_of_mem _ hq))]
    rcases h p (List.mem_cons_self ..) with e | e
    · rw [e]
    · rw [if_neg (fun q => e q.2), if_neg (fun q => e q.2)]
theorem tabL_hit {L : Nat → Bool} {p : Nat × κ × ν} : ∀ {T : List (Nat × κ × ν)}, p ∈ T → L p.1 = true → (T.map (·.2.1)).Nodup → tabL L T p.2.1 = some p.2.2
  | [], h, _, _ => by cases h
  | q :: r, h, hL, hn => by
    rw [List.map_cons, List.nodup_cons] at hn
    unfold tabL
    rcases List.mem_cons.1 h with rfl | h
    · rw [if_pos ⟨hL, rfl⟩]
    · rw [if_neg (fun e => hn.1 (List.mem_map.2 ⟨p, h, e.2⟩))]
      exact tabL_hit h hL hn.2
/-- The map of the region: made by operation 0 into slot m; mp: the operations that hand it on, with their slots; T: the rows of the table, each with its operation. -/
structure MInv (encK : κ → Value) (encV : ν → Value) (m : Nat) (mp : List (Nat × Nat)) (T : List (Nat × κ × ν)) (w0 : World) (L : Nat → Bool) (a : Act) (w : World) (B : Nat) (l : List (κ × ν)) : Prop where
  below : Below w0.heap.size w0 w
  own : L 0 = true → a.eval (.tmp m) = .map (some B) ∧ w0.heap.size ≤ B ∧ MapR encK encV w B l ∧ ∀ b, lookL l b = tabL L T b
  aft : ∀ p ∈ mp, L p.1 = true → L 0 = true ∧ a.eval (.tmp p.2) = .map (some B)
  rows : ∀ p ∈ T, L p.1 = true → L 0 = true
variable {m : Nat} {mp : List (Nat × Nat)} {T : List (Nat × κ × ν)} {w0 w w' : World} {L : Nat → Bool} {a : Act} {B : Nat} {l : List (κ × ν)}
theorem MInv.start (hb : Below w0.heap.size w0 w) : MInv encK encV m mp T w0 (fun _ => false) a w B l := ⟨hb, (fun h => by cases h), (fun _ _ h => by cases h), (fun _ _ h => by cases h)⟩
/-- A value is put that is none of the map's. -/
theorem MInv.val (h : MInv encK encV m mp T w0 L a w B l) {i s : Nat} {v : Value} (hi : i ≠ 0 ∧ i ∉ mp.map (·.1) ∧ i ∉ T.map (·.1)) (hs : s ≠ m ∧ s ∉ mp.map (·.2)) (hb : Below w.heap.size w w') : MInv encK encV m mp T w0 (addL L i) (a.put (some s) v) w' B l where
  below := below_step h.below hb
  own hL := by
    rw [addL_ne L (fun e => hi.1 e.symm)] at hL
    obtain ⟨h1, h2, h3, h4⟩ := h.own hL
    refine ⟨(put_eval_ne (fun e => hs.1 e.symm)).trans h1, h2, h3.later hb, fun b => (h4 b).trans (tabL_same (fun p hp => .inl ?_)).symm⟩
    exact addL_out L hp hi.2.2 rfl
  aft p hp hL := by
    rw [addL_out L hp hi.2.1 rfl] at hL
    obtain ⟨h1, h2⟩ := h.aft p hp hL
    exact ⟨by unfold addL; split <;> first | rfl | exact h1, (put_eval_ne (k := p.2) (fun e => hs.2 (List.mem_map.2 ⟨p, hp, e⟩))).trans h2⟩
  rows p hp hL := by
    rw [addL_out L hp hi.2.2 rfl] at hL
    have := h.rows p hp hL
    unfold addL
    split <;> first | rfl | exact this
/-- The map is made. -/
theorem MInv.make (h : MInv encK encV m mp T w0 L a w B l) (h0 : L 0 = false) (hT : 0 ∉ T.map (·.1)) (hmp : 0 ∉ mp.map (·.1)) (hz : m < a.tmps.size) : MInv encK encV m mp T w0 (addL L 0) (a.put (some m) (.map (some w.heap.size))) (w.alloc (.map #[] 0)) w.heap.size ([] : List (κ × ν)) where
  below := h.below.alloc h.below.size _
  own _ := by
    refine ⟨put_eval_same hz, h.below.size, MapR.made w, fun b => ?_⟩
    rw [lookL_nil]
    refine (tabL_none (fun p hp => ?_)).symm
    rw [addL_out L hp hT rfl]
    cases hq : L p.1 with
    | false => rfl
    | true => rw [h.rows p hp hq] at h0; cases h0
  aft p hp hL := by
    rw [addL_out L hp hmp rfl] at hL
    rw [(h.aft p hp hL).1] at h0
    cases h0
  rows _ _ _ := addL_self L 0
/-- A row is stored. -/
theorem MInv.row {P : Program} {kt vt t : TypeId} (K : KeyOk P kt encK) (ht : P.underlying t = some (.map kt vt)) (h : MInv encK encV m mp T w0 L a w B l) (hn : (T.map (·.1)).Nodup) (hk : (T.map (·.2.1)).Nodup) (j : Nat) {i : Nat} {k : κ} {v : ν} (hj : T[j]? = some (i, k, v)) (hi : i ∉ mp.map (·.1)) (h0 : L 0 = true) :
    ∃ w', (Instr.mapUpdate t (.map (some B)) (encK k) (encV v)).run P w = .ok () w' ∧ MInv encK encV m mp T w0 (addL L i) a w' B (setL l k v) := by
  obtain ⟨h1, h2, h3, h4⟩ := h.own h0
  obtain ⟨w', hr, hm, hg⟩ := h3.update K ht k v
  have hmem := List.mem_of_getElem? hj
  have hone : ∀ q, q = 0 ∨ True → addL L i 0 = true := by
    intro _ _
    unfold addL
    split <;> first | rfl | exact h0
  refine ⟨w', hr, ⟨h.below.grown hg h.below.size (fun k e => by cases e; exact h2), fun _ => ⟨h1, h2, hm, fun b => ?_⟩, fun p hp hL => ?_, fun p hp hL => hone 0 (.inr trivial)⟩⟩
  · rw [lookL_setL]
    by_cases e : b = k
    · subst e
      rw [if_pos rfl]
      exact (tabL_hit hmem (addL_self L i) hk).symm
    · rw [if_neg e, h4 b]
      refine (tabL_same (fun p hp => ?_)).symm
      by_cases e2 : p.1 = i
      · have := nodup_get (·.1) hn hp hmem e2
        subst this
        exact .inr e
      · exact .inl (addL_ne L e2)
  · rw [addL_out L hp hi rfl] at hL
    exact ⟨hone 0 (.inr trivial), (h.aft p hp hL).2⟩
/-- The map is handed on. -/
theorem MInv.hand (h : MInv encK encV m mp T w0 L a w B l) {i s : Nat} (hp : (i, s) ∈ mp) (hn : (mp.map (·.1)).Nodup) (hs : (mp.map (·.2)).Nodup) (hi : i ≠ 0 ∧ i ∉ T.map (·.1)) (hm : s ≠ m) (h0 : L 0 = true) (hz : s < a.tmps.size) : MInv encK encV m mp T w0 (addL L i) (a.put (some s) (.map (some B))) w B l where
  below := h.below
  own hL := by
    obtain ⟨h1, h2, h3, h4⟩ := h.own h0
    refine ⟨(put_eval_ne (fun e => hm e.symm)).trans h1, h2, h3, fun b => (h4 b).trans (tabL_same (fun p hp => .inl ?_)).symm⟩
    exact addL_out L hp hi.2 rfl
  aft p hq hL := by
    refine ⟨by rw [addL_ne L (fun e => hi.1 e.symm)]; exact h0, ?_⟩
    by_cases e : p.1 = i
    · have := nodup_get (·.1) hn hq hp e
      subst this
      exact put_eval_same hz
    · rw [addL_ne L e] at hL
      have hne : p.2 ≠ s := fun e2 => e (by have := nodup_get (·.2) hs hq hp e2; subst this; rfl)
      exact (put_eval_ne hne).trans (h.aft p hq hL).2
  rows p hq hL := by
    rw [addL_ne L (fun e => hi.1 e.symm)]; exact h0
end
end Go.Proofs.Ytaoflcmjmhfblaa.H
/- A region that draws its order, whose first operations read or call (growth alone), and whose last ones go in one forced order: one walk. The class of worlds: whatever has come of one world by growth. -/
namespace Go.Proofs.Ytaoflcmjmhfblaa.H
open Go.RowKit Go.Proofs.YtaoflcmjmhfblaaW.PrintWords Go.Proofs.YtaoflcmjmhfblaaW.PrintLast Go.Proofs.YtaoflcmjmhfblaaW.PrintMore
set_option linter.unusedVariables false
set_option linter.unusedSimpArgs false
set_option linter.unusedSectionVars false
section
variable {P : Program} {ops : Array Oper} {md : Region.Mode} {C : World → Prop}
/-- The first f operations, whichever may come up, all of them among the first n; behind them L. -/
def wpAnyLQ (P : Program) (md : Region.Mode) (ops : Array Oper) (C : World → Prop) (n : Nat) (L : Array Bool → Act → Prop) : Nat → Array Bool → Act → Prop
  | 0, listed, a => L listed a
  | f + 1, listed, a =>
    Region.ready md ops listed ≠ [] ∧ ∀ i ∈ Region.ready md ops listed, i < n ∧ qOp P ops C i (wpAnyLQ P md ops C n L f (listed.setIfInBounds i true)) a
theorem wpAny_of_headQ {n g : Nat} {L : Array Bool → Act → Prop} {Q' : Exit → Act → World → Prop} (hL : ∀ listed a w, C w → L listed a → wpAny P md ops Q' g listed a w) :
    ∀ (f : Nat) (listed : Array Bool) (a : Act) (w : World), C w → wpAnyLQ P md ops C n L f listed a → wpAny P md ops Q' (f + g) listed a w
  | 0, listed, a, w, hC, h => by rw [Nat.zero_add]; exact hL _ _ _ hC h
  | f + 1, listed, a, w, hC, h => by
    rw [show f + 1 + g = (f + g) + 1 by omega]
    exact ⟨fun h0 => absurd h0 h.1, fun i hi => wpOp_of_qOp hC (fun a' w' hC' h' => wpAny_of_headQ hL f _ a' w' hC' h') (h.2 i hi).2⟩
theorem wpAnyLQ_first {n i : Nat} {oi : Oper} {v : Value} {L : Array Bool → Act → Prop} (hi : ops[i]? = some oi) (hsel : ∀ (j : Nat) (o : Oper) cs b, ops[j]? = some o → o.op ≠ .select cs b)
    (hs : Region.sinkB md ops n = true) (hc : Region.chainB md ops n = true) (hn : n < ops.size) (hin : i < n)
    (hdone : ∀ listed a, L listed a → ∀ j ∈ Region.ready md ops listed, n ≤ j) :
    ∀ (f : Nat) (listed : Array Bool) (a : Act), HeadInv md ops n listed →
      (∀ j oj, ops[j]? = some oj → j ≠ i → listed.getD j true = false → (∀ e ∈ oj.after, Region.binds md e = true → e.on ≠ i) → oi.apart ops oj = true) →
      i ∈ Region.ready md ops listed → YieldsIn P ops C oi v a →
      wpAnyLQ P md ops C n L f (listed.setIfInBounds i true) (a.put oi.dst v) → wpAnyLQ P md ops C n L (f + 1) listed a := by
  intro f
  induction f with
  | zero =>
    intro listed a inv _ hr hy H
    have hun := (mem_ready.1 hr).1
    refine ⟨fun h => (by rw [h] at hr; cases hr), fun j hj => ?_⟩
    have hjn : j < n := by
      rcases Nat.lt_or_ge j n with h | h
      · exact h
      · exact absurd hj (tail_waits hs hc hn inv _ i rfl hin hun j h)
    refine ⟨hjn, ?_⟩
    by_cases hji : j = i
    · subst hji; exact hy.qOp hi H
    · have := hdone _ _ H j (ready_mono hj hji)
      omega
  | succ f ih =>
    intro listed a inv hfree hr hy H
    have hun := (mem_ready.1 hr).1
    refine ⟨fun h => (by rw [h] at hr; cases hr), fun j hj => ?_⟩
    have hjn : j < n := by
      rcases Nat.lt_or_ge j n with h | h
      · exact h
      · exact absurd hj (tail_waits hs hc hn inv _ i rfl hin hun j h)
    refine ⟨hjn, ?_⟩
    by_cases hji : j = i
    · subst hji; exact hy.qOp hi H
    · have h1 := (H.2 j (ready_mono hj hji)).2
      obtain ⟨hjun, oj, hoj, hall⟩ := mem_ready.1 hj
      have hnot : ∀ e ∈ oj.after, Region.binds md e = true → e.on ≠ i := fun e he hb heq => by
        have h1 := hall e he hb
        rw [heq, getD_both hun] at h1
        cases h1
      have h2 := qOp_put hoj (hfree j oj hoj hji hjun hnot) (fun cs b => hsel i oi cs b hi) (fun cs b => hsel j oj cs b hoj) hy h1
      have hfree' : ∀ k ok, ops[k]? = some ok → k ≠ i → (listed.setIfInBounds j true).getD k true = false →
          (∀ e ∈ ok.after, Region.binds md e = true → e.on ≠ i) → oi.apart ops ok = true := fun k ok hk hki hun hno => by
        refine hfree k ok hk hki ?_ hno
        by_cases hjk : j = k
        · subst hjk; exact hjun
        · rw [getD_set_ne true hjk] at hun; exact hun
      refine qOp_mono (fun a' h3 => ih (listed.setIfInBounds j true) a' (inv.set hj hjn) hfree' (ready_mono hr (Ne.symm hji)) h3.1 ?_) h2
      rw [Array.setIfInBounds_comm _ _ hji]
      exact h3.2
theorem wpAnyLQ_lex {n g : Nat} {Lq : Act → Prop} (hsel : Region.noSelect ops = true) (hs : Region.sinkB md ops n = true) (hc : Region.chainB md ops n = true) (hn : n < ops.size) :
    ∀ (l : List Oper) (k : Nat) (listed : Array Bool) (a : Act), (∀ j, j < l.length → l[j]? = ops[k + j]?) → k + l.length = n → HeadInv md ops n listed →
    Region.lexHead md ops g l.length k listed = true → wpQuiet P ops C Lq l a →
    wpAnyLQ P md ops C n (fun listed' a' => Region.seqB md ops g n listed' = true ∧ Lq a') l.length listed a
  | [], k, listed, a, _, hk, _, hB, h => by
    have : k = n := by simpa using hk
    subst this
    exact ⟨by simpa [Region.lexHead] using hB, h⟩
  | o :: l, k, listed, a, hl, hk, inv, hB, h => by
    have h0 : ops[k]? = some o := by simpa using (hl 0 (by simp)).symm
    simp only [List.length_cons, Region.lexHead, Bool.and_eq_true] at hB
    obtain ⟨⟨hr, hf⟩, hB'⟩ := hB
    have hkn : k < n := by simp only [List.length_cons] at hk; omega
    have hr' : k ∈ Region.ready md ops listed := by simpa using hr
    have hst : qOp P ops C k (wpQuiet P ops C Lq l) a := by unfold qOp; simp only [h0]; exact h
    obtain ⟨v, hy, hK⟩ := yieldsIn_of_qOp h0 hst
    exact wpAnyLQ_first h0 (Region.noSelect_spec hsel) hs hc hn hkn (fun listed' a' hL => seqB_ready hL.1) l.length listed a inv (Region.free_spec h0 hf) hr' hy
      (wpAnyLQ_lex hsel hs hc hn l (k + 1) _ _ (fun j hj => by have := hl (j + 1) (by simp; omega); simpa [Nat.add_assoc, Nat.add_comm 1 j] using this) (by simp only [List.length_cons] at hk; omega) (inv.set hr' hkn) hB' hK)
/-- THE LAW: the head quiet in a class of worlds, the tail in one order. -/
theorem wp_region_quiet_tail {id : Nat} {Q : Exit → Act → World → Prop} {a : Act} {w : World} {l : List Oper} (n : Nat) (hm : P.follows .mixedOrders = true) (hB : Region.lexTailB .any l.toArray n = true) (hC : C w.drew)
    (h : wpQuiet P l.toArray C (fun a' => ∀ w', C w' → wpList P l.toArray Q (l.drop n) a' w') (l.take n) a) : (Code.region id l.toArray true).wp P Q a w := by
  simp only [Region.lexTailB, Bool.and_eq_true, decide_eq_true_eq] at hB
  obtain ⟨⟨⟨⟨hsel, hn⟩, hs⟩, hc⟩, hlex⟩ := hB
  have hn' : n < l.length := by simpa using hn
  have htl : (l.take n).length = n := by simp; omega
  have hdl : (l.drop n).length = l.toArray.size - n := by simp
  have inv0 : HeadInv .any l.toArray n (Array.replicate l.toArray.size false) :=
    ⟨by simp, fun j oj _ hl => (by rw [getD_replicate_false] at hl; cases hl), fun t _ ht => getD_in (by simpa using ht) (getD_replicate_false _ _)⟩
  have H := wpAnyLQ_lex (md := .any) (g := l.toArray.size - n) hsel hs hc hn (l.take n) 0 _ a (fun j hj => by
    have hj' : j < n := by rw [htl] at hj; exact hj
    simp [hj']) (by simpa using htl) inv0 (by rw [htl]; exact hlex) h
  refine wp_region_any hm ?_
  have := wpAny_of_headQ (Q' := Q) (g := l.toArray.size - n) (fun listed a' w' hC' hL => by
    have := wpAny_of_seq (md := .any) (Q' := Q) (l.drop n) n listed a' w' (fun j => by simp [List.getElem?_drop]) (by rw [hdl]; exact hL.1) (hL.2 w' hC')
    rwa [hdl] at this) _ _ _ _ hC H
  rw [htl, show n + (l.toArray.size - n) = l.toArray.size by omega] at this
  exact this
end
/-- A world that has come of w by growth. -/
structure Bw (w : World) where
  W : World
  h : Below w.heap.size w W
/-- A region whose operations read or call, the calls grow memory alone: one walk. -/
theorem wp_region_bw {P : Program} {id : Nat} {Q : Exit → Act → World → Prop} {a : Act} {w : World} {l : List Oper} (hm : P.follows .mixedOrders = true) (hB : Region.lexB .any l.toArray = true)
    (h : wpQuiet P l.toArray (fun w' => ∃ p : Bw w, w' = p.W) (fun a' => ∀ w', (∃ p : Bw w, w' = p.W) → Q .normal a' w') l a) : (Code.region id l.toArray true).wp P Q a w :=
  wp_region_quiet (C := fun w' => ∃ p : Bw w, w' = p.W) hm hB ⟨⟨w.drew, below_drew (Below.refl _ _)⟩, rfl⟩ (by simpa using h)
theorem wp_region_bw_tail {P : Program} {id : Nat} {Q : Exit → Act → World → Prop} {a : Act} {w : World} {l : List Oper} (n : Nat) (hm : P.follows .mixedOrders = true) (hB : Region.lexTailB .any l.toArray n = true)
    (h : wpQuiet P l.toArray (fun w' => ∃ p : Bw w, w' = p.W) (fun a' => ∀ w', (∃ p : Bw w, w' = p.W) → wpList P l.toArray Q (l.drop n) a' w') (l.take n) a) : (Code.region id l.toArray true).wp P Q a w :=
  wp_region_quiet_tail (C := fun w' => ∃ p : Bw w, w' = p.W) n hm hB ⟨⟨w.drew, below_drew (Below.refl _ _)⟩, rfl⟩ h
theorem Bw.cell {w : World} {a : Addr} {v : Value} (h : w.cell? a = some v) (p : Bw w) : p.W.cell? a = some v := (p.h.cell (World.block_lt_of_cell? w _ h)).trans h
theorem Bw.block {w : World} {g : Nat} {o : Obj} (h : w.heap[g]? = some o) (p : Bw w) : p.W.heap[g]? = some o := (p.h.block _ (Array.getElem?_eq_some_iff.1 h).1).trans h
/-- A callee's contract, met in a world of the class. -/
theorem Bw.calls {P : Program} {f : FuncId} {args : Array Value} {w : World} {p : Bw w} {v : Value}
    (h : Calls P f args p.W fun e w' => e = .returned v ∧ Below p.W.heap.size p.W w') : Calls P f args p.W fun e w'' => e = .returned v ∧ ∃ q : Bw w, w'' = q.W :=
  h.mono fun _ w' ⟨he, hb⟩ => ⟨he, ⟨w', below_step p.h hb⟩, rfl⟩
end Go.Proofs.Ytaoflcmjmhfblaa.H
/- A region that draws its order, proved as a lemma of its own (gp/regn.py): steps told of two operands, of a guard. -/
namespace Go.Proofs.Ytaoflcmjmhfblaa.H
open Go.RowKit Go.Proofs.YtaoflcmjmhfblaaW.PrintWords Go.Proofs.YtaoflcmjmhfblaaW.PrintLast Go.Proofs.YtaoflcmjmhfblaaW.PrintMore
set_option linter.unusedVariables false
set_option linter.unusedSimpArgs false
set_option linter.unusedSectionVars false
section
variable {P : Program} {ops : Array Oper} {Q : Exit → Act → World → Prop} {K : Act → World → Prop} {o : Oper} {a : Act} {w w' : World}
theorem stp2 {v : Value} (x : Operand) (u : Value) (x2 : Operand) (u2 : Value) (hg : o.guard = none) (hx : a.eval x = u) (hx2 : a.eval x2 = u2)
    (hrun : ∀ ρ : Operand → Value, (∀ v, ρ (.const v) = v) → ρ x = u → ρ x2 = u2 → (execOp ρ o).run P w = .ok (.value v) w') (h : K (a.put o.dst v) w') : StepOk P ops o a w K Q :=
  stp hg (hrun _ (fun _ => rfl) hx hx2) h
theorem yielded_slot {s j : Nat} {b : Bool} {oj : Oper} (hj : ops[j]? = some oj) (hd : oj.dst = some s) (hE : a.eval (.tmp s) = .bool b) : yielded ops a.tmps j = some b := by
  unfold yielded
  simp only [hj, Option.bind_some, hd]
  simp only [Act.eval, Array.getD_eq_getD_getElem?] at hE
  cases hq : a.tmps[s]? with
  | none => rw [hq] at hE; simp [undef] at hE
  | some v =>
    rw [hq] at hE
    simp only [Option.getD_some] at hE
    subst hE
    rfl
/-- A guarded operation: V is its value where it is wanted, undef where not. -/
theorem stp_guard {s j : Nat} {b want : Bool} {oj : Oper} {V : Value} (hg : o.guard = some (j, want)) (hj : ops[j]? = some oj) (hd : oj.dst = some s) (hE : a.eval (.tmp s) = .bool b)
    (h1 : b = want → ∃ v, V = v ∧ (execOp a.eval o).run P w = .ok (.value v) w) (h2 : ¬ b = want → V = undef) (h : K (a.put o.dst V) w) : StepOk P ops o a w K Q := by
  have hy := yielded_slot hj hd hE
  refine ⟨fun hw => ?_, fun hw => ?_⟩
  · have hb : b = want := by simpa [Region.wanted, hg, hy] using hw
    obtain ⟨v, rfl, hr⟩ := h1 hb
    unfold Oper.wp
    rw [hr]
    exact h
  · have hb : ¬ b = want := by simpa [Region.wanted, hg, hy] using hw
    rw [h2 hb] at h
    exact h
theorem stp_guard1 {s j : Nat} {b want : Bool} {oj : Oper} {v V : Value} (x : Operand) (u : Value) (hg : o.guard = some (j, want)) (hj : ops[j]? = some oj) (hd : oj.dst = some s) (hE : a.eval (.tmp s) = .bool b) (hx : a.eval x = u)
    (hrun : b = want → ∀ ρ : Operand → Value, (∀ v, ρ (.const v) = v) → ρ x = u → (execOp ρ o).run P w = .ok (.value v) w) (h2 : ¬ b = want → V = undef) (h3 : b = want → V = v) (h : K (a.put o.dst V) w) : StepOk P ops o a w K Q :=
  stp_guard hg hj hd hE (fun hb => ⟨v, h3 hb, hrun hb _ (fun _ => rfl) hx⟩) h2 h
theorem stp_guard2 {s j : Nat} {b want : Bool} {oj : Oper} {v V : Value} (x : Operand) (u : Value) (x2 : Operand) (u2 : Value) (hg : o.guard = some (j, want)) (hj : ops[j]? = some oj) (hd : oj.dst = some s) (hE : a.eval (.tmp s) = .bool b) (hx : a.eval x = u) (hx2 : a.eval x2 = u2)
    (hrun : b = want → ∀ ρ : Operand → Value, (∀ v, ρ (.const v) = v) → ρ x = u → ρ x2 = u2 → (execOp ρ o).run P w = .ok (.value v) w) (h2 : ¬ b = want → V = undef) (h3 : b = want → V = v) (h : K (a.put o.dst V) w) : StepOk P ops o a w K Q :=
  stp_guard hg hj hd hE (fun hb => ⟨v, h3 hb, hrun hb _ (fun _ => rfl) hx hx2⟩) h2 h
theorem deps {L : Nat → Bool} (o : Oper) (h : ∀ e ∈ o.after, Region.binds .any e = true → L e.on = true) (k : Nat) (hk : k ∈ (o.after.toList.filter (Region.binds .any)).map (·.on)) : L k = true := by
  obtain ⟨e, he, rfl⟩ := List.mem_map.1 hk
  obtain ⟨h1, h2⟩ := List.mem_filter.1 he
  exact h e (by simpa using h1) h2
end
end Go.Proofs.Ytaoflcmjmhfblaa.H
/- Boxes: a store into a block that is known whole, at any offset; the world behind it is told by what its blocks hold. -/
namespace Go.Proofs.Ytaoflcmjmhfblaa.H
open Go.RowKit Go.Proofs.YtaoflcmjmhfblaaW.PrintWords Go.Proofs.YtaoflcmjmhfblaaW.PrintLast Go.Proofs.YtaoflcmjmhfblaaW.PrintMore
set_option linter.unusedVariables false
set_option linter.unusedSimpArgs false
set_option linter.unusedSectionVars false
section
variable {P : Program} {ops : Array Oper} {Q : Exit → Act → World → Prop} {rest : List Oper} {o : Oper} {a : Act} {w w0 : World} {base : Nat}
theorem run_storeVar_seg (w : World) (g off : Nat) (t ty : TypeId) (old : Array Value) (v : Value) (vs : List Value) (hv : v.cells.toList = vs) (hg : w.heap[g]? = some (.cells old t (0, 0))) (hi : (P.info? ty).map (·.size) = some vs.length)
    (hlen : off + vs.length ≤ old.size) (h1 : ∀ x ∈ vs, x.oneCell' = true) : (storeVar ty ⟨g, off, none⟩ v).run P w = .ok () (w.setRow g (old.toList.take off ++ vs ++ old.toList.drop (off + vs.length)).toArray) := by
  have := run_storeCells_at (P := P) g off t vs 0 old w hg (by simpa using hlen) h1
  have hc : v.cells = vs.toArray := by rw [← hv]
  cases hq : P.info? ty with
  | none => simp [hq] at hi
  | some i =>
    have hs : i.size = vs.length := by simpa [hq] using hi
    simp only [Nat.add_zero] at this
    simp [storeVar, sizeOf, typeInfo, hq, hc, hs, this]
/-- A store into a block that is known whole. -/
theorem bx_store (hgd : o.guard = none) (ty : TypeId) (x y : Operand) (ho : o.op = .store ty x y) (g off : Nat) (hx : a.eval x = .pointer (some ⟨g, off, none⟩)) (v : Value) (hy : a.eval y = v) (vs : List Value) (hv : v.cells.toList = vs)
    (t : TypeId) (old : Array Value) (hg : w.heap[g]? = some (.cells old t (0, 0))) (hi : (P.info? ty).map (·.size) = some vs.length) (hlen : off + vs.length ≤ old.size) (h1 : vs.all (·.oneCell') = true)
    (new : Array Value) (hnew : (old.toList.take off ++ vs ++ old.toList.drop (off + vs.length)).toArray = new) (HB : Below base w0 w) (hb : base ≤ g)
    (h : ∀ W' : World, W'.heap[g]? = some (.cells new t (0, 0)) → W'.heap.size = w.heap.size → (∀ k, k ≠ g → W'.heap[k]? = w.heap[k]?) → Below base w0 W' → wpList P ops Q rest (a.put o.dst undef) W') : wpList P ops Q (o :: rest) a w :=
  wpList_plain hgd fun _ hK => by
    have hr := run_storeVar_seg (P := P) w g off t ty old v vs hv hg hi hlen (fun x hx => List.all_eq_true.1 h1 x hx)
    unfold Oper.wp execOp
    simp only [ho, hx, hy, Instr.storeAt, Instr.sureAddr, Sem.run_bind, Sem.run_pure, Result.andThen_ok, hr]
    rw [hnew]
    exact hK _ _ (h _ (setRow_heap w g old new t _ hg) (by simp [World.setRow]) (fun k hk => setRow_other w g k new hk) (below_setRow HB hb _))
/-- A value of one cell stored into a block that is known whole. -/
theorem bx_store1 (hgd : o.guard = none) (ty : TypeId) (x y : Operand) (ho : o.op = .store ty x y) (g off : Nat) (hx : a.eval x = .pointer (some ⟨g, off, none⟩)) (v : Value) (hy : a.eval y = v)
    (t : TypeId) (old : Array Value) (hg : w.heap[g]? = some (.cells old t (0, 0))) (hi : (P.info? ty).map (·.size) = some 1) (hlen : off < old.size) (h1 : v.oneCell' = true)
    (new : Array Value) (hnew : old.setIfInBounds off v = new) (HB : Below base w0 w) (hb : base ≤ g)
    (h : ∀ W' : World, W'.heap[g]? = some (.cells new t (0, 0)) → W'.heap.size = w.heap.size → (∀ k, k ≠ g → W'.heap[k]? = w.heap[k]?) → Below base w0 W' → wpList P ops Q rest (a.put o.dst undef) W') : wpList P ops Q (o :: rest) a w := by
  have hc : v.cells.toList = [v] := by cases v <;> first | rfl | cases h1
  refine bx_store hgd ty x y ho g off hx v hy [v] hc t old hg hi hlen (by simp [h1]) new ?_ HB hb h
  rw [← hnew]
  apply Array.ext'
  rw [Array.toList_setIfInBounds, List.set_eq_take_append_cons_drop, if_pos (by simpa using hlen)]
  simp
/-- A whole row stored into a block of as many cells. -/
theorem bx_row (hgd : o.guard = none) (ty : TypeId) (x y : Operand) (ho : o.op = .store ty x y) (g : Nat) (hx : a.eval x = .pointer (some ⟨g, 0, none⟩)) (new : Array Value) (hy : a.eval y = .agg new)
    (t : TypeId) (old : Array Value) (hg : w.heap[g]? = some (.cells old t (0, 0))) (hi : (P.info? ty).map (·.size) = some new.size) (hlen : old.size = new.size) (h1 : new.all (·.oneCell') = true)
    (HB : Below base w0 w) (hb : base ≤ g)
    (h : ∀ W' : World, W'.heap[g]? = some (.cells new t (0, 0)) → W'.heap.size = w.heap.size → (∀ k, k ≠ g → W'.heap[k]? = w.heap[k]?) → Below base w0 W' → wpList P ops Q rest (a.put o.dst undef) W') : wpList P ops Q (o :: rest) a w :=
  wpList_store_row hgd ty x y ho g new hx hy t old hg hi hlen h1 (h _ (setRow_heap w g old new t _ hg) (by simp [World.setRow]) (fun k hk => setRow_other w g k new hk) (below_setRow HB hb _))
/-- A block is laid. -/
theorem bx_alloc (o' : Obj) (HB : Below base w0 w) (hb : base ≤ w.heap.size)
    (h : ∀ W' : World, W'.heap[w.heap.size]? = some o' → W'.heap.size = w.heap.size + 1 → (∀ k, k < w.heap.size → W'.heap[k]? = w.heap[k]?) → Below base w0 W' → wpList P ops Q rest a W') : wpList P ops Q rest a (w.alloc o') :=
  h _ (heap_alloc_new w o') (by simp) (fun k hk => Below.heap_alloc w o' k hk) (HB.alloc hb _)
end
theorem heap_setCell_in {w : World} {g : Nat} {cs : Array Value} {t : TypeId} {fr : Nat × Nat} (h : w.heap[g]? = some (.cells cs t fr)) (j : Nat) (v : Value) : (w.setCell ⟨g, j, none⟩ v).heap[g]? = some (.cells (cs.setIfInBounds j v) t fr) := by
  rw [setCell_eq_setRow w g j cs t fr v h]
  exact setRow_heap w g cs _ t fr h
theorem heap_setCell_out {w : World} {g k : Nat} (j : Nat) (v : Value) (hk : k ≠ g) : (w.setCell ⟨g, j, none⟩ v).heap[k]? = w.heap[k]? := by
  simp [World.setCell, Array.getElem?_modify, Ne.symm hk]
/-- What a goal says of a world, told of whatever world of which something holds. -/
theorem gen_w {P : Program} {c : Code} {Q : Exit → Act → World → Prop} {a : Act} {w : World} (F : World → Prop) (hF : F w) (h : ∀ W, F W → c.wp P Q a W) : c.wp P Q a w := h w hF
theorem eval_tmp' (a : Act) (k : Nat) : a.tmps.getD k undef = a.eval (.tmp k) := rfl
theorem beq_dec (a b : Int) : (a == b) = decide (a = b) := rfl
theorem blk_call {w w' : World} {g : Nat} {o : Obj} (hb : Below w.heap.size w w') (h : w.heap[g]? = some o) : w'.heap[g]? = some o := (hb.block _ (blk_lt h)).trans h
theorem gen_act2 {P : Program} {c : Code} {Q : Exit → Act → World → Prop} {a : Act} {w : World} (F : Act → World → Prop) (hF : F a w) (h : ∀ a0 w0, F a0 w0 → c.wp P Q a0 w0) : c.wp P Q a w := h a w hF
end Go.Proofs.Ytaoflcmjmhfblaa.H
/- A region that draws its order, calls, lays one block and fills it ('x, e := f(..)'); the frame behind it written out. -/
namespace Go.Proofs.Ytaoflcmjmhfblaa.H
open Go.RowKit Go.Proofs.YtaoflcmjmhfblaaW.PrintWords Go.Proofs.YtaoflcmjmhfblaaW.PrintLast Go.Proofs.YtaoflcmjmhfblaaW.PrintMore
set_option linter.unusedVariables false
set_option linter.unusedSimpArgs false
set_option linter.unusedSectionVars false
theorem addL_mono {L : Nat → Bool} {j : Nat} (i : Nat) (h : L j = true) : addL L i j = true := by
  unfold addL
  split
  · rfl
  · exact h
/-- The block that the region lays (operation ia, slot sl) and fills (operation is). -/
structure AInv (W0 : World) (ia is sl : Nat) (zero new : Array Value) (T : TypeId) (L : Nat → Bool) (a : Act) (W : World) (g : Nat) : Prop where
  below : Below W0.heap.size W0 W
  row : L ia = true → a.eval (.tmp sl) = .pointer (some ⟨g, 0, none⟩) ∧ W0.heap.size ≤ g ∧ W.heap[g]? = some (.cells (if L is = true then new else zero) T (0, 0))
  ord : L is = true → L ia = true
section
variable {W0 W W2 : World} {ia is sl : Nat} {zero new : Array Value} {T : TypeId} {L : Nat → Bool} {a : Act} {g : Nat}
theorem AInv.start (a : Act) (hb : Below W0.heap.size W0 W) : AInv W0 ia is sl zero new T (fun _ => false) a W g := ⟨hb, (fun h => by cases h), (fun h => by cases h)⟩
/-- Another value is put; the world may have grown. -/
theorem AInv.val (h : AInv W0 ia is sl zero new T L a W g) {i s : Nat} {v : Value} (hi : i ≠ ia ∧ i ≠ is) (hs : s ≠ sl) (hb : Below W.heap.size W W2) : AInv W0 ia is sl zero new T (addL L i) (a.put (some s) v) W2 g where
  below := below_step h.below hb
  row hL := by
    rw [addL_ne L (fun e => hi.1 e.symm)] at hL
    obtain ⟨h1, h2, h3⟩ := h.row hL
    rw [addL_ne L (fun e => hi.2 e.symm)]
    exact ⟨(put_eval_ne (fun e => hs e.symm)).trans h1, h2, blk_call hb h3⟩
  ord hL := by
    rw [addL_ne L (fun e => hi.2 e.symm)] at hL
    exact addL_mono i (h.ord hL)
theorem AInv.alloc (h : AInv W0 ia is sl zero new T L a W g) (hne : is ≠ ia) (hL : L ia = false) (hz : sl < a.tmps.size) : AInv W0 ia is sl zero new T (addL L ia) (a.put (some sl) (.pointer (some ⟨W.heap.size, 0, none⟩))) (W.alloc (.cells zero T (0, 0))) W.heap.size where
  below := below_alloc h.below _
  row _ := by
    have h2 : L is = false := by
      cases hq : L is with
      | false => rfl
      | true => rw [h.ord hq] at hL; cases hL
    rw [addL_ne L hne, h2]
    exact ⟨put_eval_same hz, h.below.size, by simpa using heap_alloc_new W (.cells zero T (0, 0))⟩
  ord _ := addL_self L ia
theorem AInv.store (h : AInv W0 ia is sl zero new T L a W g) (hne : is ≠ ia) (h1 : L ia = true) (h2 : L is = false) : AInv W0 ia is sl zero new T (addL L is) a (W.setRow g new) g where
  below := below_setRow h.below (h.row h1).2.1 _
  row _ := by
    obtain ⟨e1, e2, e3⟩ := h.row h1
    rw [addL_self]
    refine ⟨e1, e2, ?_⟩
    rw [if_pos rfl]
    exact setRow_heap W g _ new T _ e3
  ord _ := addL_mono is h1
end
theorem AInv.val0 {W0 W : World} {ia is sl : Nat} {zero new : Array Value} {T : TypeId} {L : Nat → Bool} {a : Act} {g : Nat} (h : AInv W0 ia is sl zero new T L a W g) {i s : Nat} {v : Value} (hi : i ≠ ia ∧ i ≠ is) (hs : s ≠ sl) : AInv W0 ia is sl zero new T (addL L i) (a.put (some s) v) W g :=
  h.val hi hs (Below.refl _ _)
theorem put_none_ (a : Act) (v : Value) : a.put none v = a := rfl
/-- The frame behind: what it was, but for the region's slots. -/
theorem VInv.act {E : List (Nat × Nat × Value)} {ks : List Nat} {a0 a : Act} {L : Nat → Bool} (h : VInv E ks a0 L a) (hk : ∀ k ∈ ks, k < a0.tmps.size) : a = setA a0 (ks.map fun k => (k, a.eval (.tmp k))) := by
  obtain ⟨t, d⟩ := a
  obtain ⟨t0, d0⟩ := a0
  have hs : t.size = t0.size := h.size
  have hd : d = d0 := h.defers
  subst hd
  unfold setA
  congr 1
  apply Array.ext_getElem?
  intro j
  show t[j]? = (((ks.map fun k => (k, Act.eval { tmps := t, defers := d } (.tmp k))).foldl setF t0))[j]?
  by_cases hj : j ∈ ks
  · have hlt := hk j hj
    have aux : ∀ (l : List Nat) (u : Array Value), u.size = t.size → (j ∈ l ∨ u[j]? = t[j]?) → ((l.map fun k => (k, Act.eval { tmps := t, defers := d } (.tmp k))).foldl setF u)[j]? = t[j]? := by
      intro l
      induction l with
      | nil =>
        intro u hu h
        rcases h with h | h
        · cases h
        · exact h
      | cons k l ih =>
        intro u hu h
        rw [List.map_cons, List.foldl_cons]
        refine ih _ (by unfold setF; simpa using hu) ?_
        by_cases e : k = j
        · right
          subst e
          have hl : k < t.size := by rw [hs]; exact hlt
          unfold setF
          simp [Act.eval, hu, hl]
        · rcases h with h | h
          · rcases List.mem_cons.1 h with h | h
            · exact absurd h.symm e
            · exact .inl h
          · right
            unfold setF
            rw [Array.getElem?_setIfInBounds_ne e]
            exact h
    rw [aux ks t0 hs.symm (.inl hj)]
  · rw [foldl_get_out j _ _ (by intro p hp; obtain ⟨k, hk2, rfl⟩ := List.mem_map.1 hp; exact fun e => hj (by rw [← e]; exact hk2))]
    have := h.keep j hj
    simp only [Act.eval, Array.getD_eq_getD_getElem?] at this
    by_cases hl : j < t.size
    · rw [Array.getElem?_eq_getElem hl, Array.getElem?_eq_getElem (by omega)]
      simpa [hl, hs ▸ hl] using this
    · rw [Array.getElem?_eq_none (by omega), Array.getElem?_eq_none (by omega)]
end Go.Proofs.Ytaoflcmjmhfblaa.H
/- A region that draws its order and calls: growth, the draws counted. -/
namespace Go.Proofs.Ytaoflcmjmhfblaa.H
open Go.RowKit Go.Proofs.YtaoflcmjmhfblaaW.PrintWords Go.Proofs.YtaoflcmjmhfblaaW.PrintLast Go.Proofs.YtaoflcmjmhfblaaW.PrintMore
set_option linter.unusedVariables false
set_option linter.unusedSimpArgs false
/-- Growth alone, and no draw is taken back. -/
def Bel (w w' : World) : Prop := Below w.heap.size w w' ∧ w.drawn ≤ w'.drawn
theorem Bel.refl (w : World) : Bel w w := ⟨Below.refl _ _, Nat.le_refl _⟩
theorem Bel.below {w w' : World} (h : Bel w w') : Below w.heap.size w w' := h.1
theorem Bel.trans {w w1 w2 : World} (h : Bel w w1) (k : Bel w1 w2) : Bel w w2 := ⟨below_step h.1 k.1, Nat.le_trans h.2 k.2⟩
theorem Bel.alloc {w w1 : World} (h : Bel w w1) (o : Obj) : Bel w (w1.alloc o) := ⟨below_alloc h.1 o, h.2⟩
theorem Bel.drew {w w1 : World} (h : Bel w w1) : Bel w w1.drew := ⟨below_drew h.1, Nat.le_succ_of_le h.2⟩
/-- A world of growth alone is the old one with draws and blocks behind it. -/
theorem Bel.grown {w w' : World} (h : Bel w w') : ∃ q os, w' = Go.Sort.grow (w.drewN q) os := by
  obtain ⟨hb, hd⟩ := h
  refine ⟨w'.drawn - w.drawn, w'.heap.extract w.heap.size w'.heap.size, ?_⟩
  obtain ⟨h1, h2, h3, h4, h5⟩ := hb
  cases w' with
  | mk heap tape drawn os output =>
    cases w with
    | mk heap0 tape0 drawn0 os0 output0 =>
      simp only at h1 h2 h3 h4 h5 hd
      subst h1; subst h2; subst h3
      unfold Go.Sort.grow World.drewN
      simp only [World.mk.injEq, true_and, and_true]
      refine ⟨?_, by omega⟩
      apply Array.ext_getElem?
      intro i
      rcases Nat.lt_or_ge i heap0.size with hi | hi
      · rw [Array.getElem?_append_left hi]
        exact h5 i hi
      · rw [Array.getElem?_append_right hi, Array.getElem?_extract]
        have e : heap0.size + (i - heap0.size) = i := by omega
        rw [e]
        by_cases hl : i < heap.size
        · rw [if_pos (by omega)]
        · rw [if_neg (by omega), Array.getElem?_eq_none (by omega)]
structure AInvD (W0 : World) (W : World) : Prop where
  bel : Bel W0 W
theorem AInvD.below {W0 W : World} (h : AInvD W0 W) : Below W0.heap.size W0 W := h.bel.1
theorem AInvD.start {W0 W : World} (hb : Bel W0 W) : AInvD W0 W := ⟨hb⟩
theorem AInvD.val {W0 W W2 : World} (h : AInvD W0 W) (hb : Bel W W2) : AInvD W0 W2 := ⟨h.bel.trans hb⟩
end Go.Proofs.Ytaoflcmjmhfblaa.H
/- Steps of a drawn region: a row loaded at any address, a function value called. -/
namespace Go.Proofs.Ytaoflcmjmhfblaa.H
open Go.RowKit Go.Proofs.YtaoflcmjmhfblaaW.PrintWords Go.Proofs.YtaoflcmjmhfblaaW.PrintLast Go.Proofs.YtaoflcmjmhfblaaW.PrintMore
set_option linter.unusedVariables false
set_option linter.unusedSimpArgs false
set_option linter.unusedSectionVars false
section
variable {P : Program} {ops : Array Oper} {Q : Exit → Act → World → Prop} {K : Act → World → Prop} {o : Oper} {a : Act} {w w' : World}
theorem stp_loadany {ty : TypeId} {x : Operand} {p : Addr} {cs : List Value} {d : TypeDesc} (hg : o.guard = none) (hop : o.op = .load ty x) (hx : a.eval x = .pointer (some p)) (hc : ∀ j v, cs[j]? = some v → w.cell? (p.add j) = some v)
    (hu : P.underlying ty = some d) (hd : d.isRow = true) (hi : (P.info? ty).map (·.size) = some cs.length) (h : K (a.put o.dst (.agg cs.toArray)) w) : StepOk P ops o a w K Q := by
  refine stp (w' := w) hg ?_ h
  have hv := run_loadVar_any (P := P) (w := w) ty p cs d hc hu hd hi
  unfold execOp
  simp only [hop, hx, Instr.loadAt, Instr.sureAddr, Sem.run_bind, Sem.run_pure, Result.andThen_ok, hv]
theorem stp_callv {g : Nat} {cap : Array Value} {x : Operand} {xs : Array Operand} {ts : Array TypeId} {args : Array Value} (hg : o.guard = none) (eg : ∀ args w, (callFunc g args).run P w = .ok (.enter g args) w)
    (hop : o.op = .call { callee := .value x, args := xs, argTypes := ts }) (hx : a.eval x = .func (.func g) #[] cap) (hargs : xs.map a.eval = args)
    (h : Calls P g (args ++ cap) w fun e w' => ∃ v, e = .returned v ∧ K (a.put o.dst v) w') : StepOk P ops o a w K Q := by
  refine ⟨fun _ => ?_, fun h2 => absurd h2 (by simp [Region.wanted, hg])⟩
  have hrun : (execOp a.eval o).run P w = .ok (.enter g (args ++ cap)) w := by
    unfold execOp
    simp [hop, resolve, Deferred.ofValue, invoke, hx, hargs, eg]
  unfold Oper.wp
  rw [hrun, Oper.upon_enter]
  refine h.mono fun e w'' hh => ?_
  obtain ⟨v, rfl, hk⟩ := hh
  exact hk
end
end Go.Proofs.Ytaoflcmjmhfblaa.H
/- A region that draws its order, calls, lays some blocks and fills them. -/
namespace Go.Proofs.Ytaoflcmjmhfblaa.H
open Go.RowKit Go.Proofs.YtaoflcmjmhfblaaW.PrintWords Go.Proofs.YtaoflcmjmhfblaaW.PrintLast Go.Proofs.YtaoflcmjmhfblaaW.PrintMore
set_option linter.unusedVariables false
set_option linter.unusedSimpArgs false
set_option linter.unusedSectionVars false
/-- A block that a region lays (operation ia, slot sl) and fills (operation is). -/
structure Al where
  ia : Nat
  is : Nat
  sl : Nat
  zero : Array Value
  new : Array Value
  T : TypeId
structure AInvs (W0 : World) (S : List Al) (L : Nat → Bool) (a : Act) (W : World) (G : Nat → Nat) : Prop where
  below : Below W0.heap.size W0 W
  row : ∀ s ∈ S, L s.ia = true → a.eval (.tmp s.sl) = .pointer (some ⟨G s.ia, 0, none⟩) ∧ W0.heap.size ≤ G s.ia ∧ W.heap[G s.ia]? = some (.cells (if L s.is = true then s.new else s.zero) s.T (0, 0))
  inj : ∀ s ∈ S, ∀ t ∈ S, s.ia ≠ t.ia → L s.ia = true → L t.ia = true → G s.ia ≠ G t.ia
  ord : ∀ s ∈ S, L s.is = true → L s.ia = true
section
variable {W0 W W2 : World} {S : List Al} {L : Nat → Bool} {a : Act} {G : Nat → Nat}
theorem AInvs.start (a : Act) (hb : Below W0.heap.size W0 W) : AInvs W0 S (fun _ => false) a W G := ⟨hb, (fun _ _ h => by cases h), (fun _ _ _ _ _ h => by cases h), (fun _ _ h => by cases h)⟩
theorem AInvs.val (h : AInvs W0 S L a W G) {i s : Nat} {v : Value} (hi : i ∉ S.map (·.ia)) (hi2 : i ∉ S.map (·.is)) (hs : s ∉ S.map (·.sl)) (hb : Below W.heap.size W W2) : AInvs W0 S (addL L i) (a.put (some s) v) W2 G where
  below := below_step h.below hb
  row x hx hL := by
    rw [addL_ne L (fun e => hi (List.mem_map.2 ⟨x, hx, e⟩))] at hL
    obtain ⟨h1, h2, h3⟩ := h.row x hx hL
    rw [addL_ne L (fun e => hi2 (List.mem_map.2 ⟨x, hx, e⟩))]
    exact ⟨(put_eval_ne (fun e => hs (List.mem_map.2 ⟨x, hx, e⟩))).trans h1, h2, blk_call hb h3⟩
  inj x hx y hy hne h1 h2 := by
    rw [addL_ne L (fun e => hi (List.mem_map.2 ⟨x, hx, e⟩))] at h1
    rw [addL_ne L (fun e => hi (List.mem_map.2 ⟨y, hy, e⟩))] at h2
    exact h.inj x hx y hy hne h1 h2
  ord x hx hL := by
    rw [addL_ne L (fun e => hi2 (List.mem_map.2 ⟨x, hx, e⟩))] at hL
    exact addL_mono i (h.ord x hx hL)
theorem AInvs.val0 (h : AInvs W0 S L a W G) {i s : Nat} {v : Value} (hi : i ∉ S.map (·.ia)) (hi2 : i ∉ S.map (·.is)) (hs : s ∉ S.map (·.sl)) : AInvs W0 S (addL L i) (a.put (some s) v) W G := h.val hi hi2 hs (Below.refl _ _)
theorem AInvs.alloc (h : AInvs W0 S L a W G) (hn : (S.map (·.ia)).Nodup) (hk : (S.map (·.sl)).Nodup) {x : Al} (hx : x ∈ S) (hi2 : x.ia ∉ S.map (·.is)) (hL : L x.ia = false) (hz : x.sl < a.tmps.size) :
    AInvs W0 S (addL L x.ia) (a.put (some x.sl) (.pointer (some ⟨W.heap.size, 0, none⟩))) (W.alloc (.cells x.zero x.T (0, 0))) (fun k => if k = x.ia then W.heap.size else G k) where
  below := below_alloc h.below _
  row y hy hLy := by
    by_cases e : y.ia = x.ia
    · obtain rfl := nodup_get (·.ia) hn hy hx e
      have h2 : L y.is = false := by
        cases hq : L y.is with
        | false => rfl
        | true => rw [h.ord y hy hq] at hL; cases hL
      rw [addL_ne L (fun e => hi2 (List.mem_map.2 ⟨y, hy, e⟩)), h2]
      refine ⟨?_, ?_, ?_⟩
      · simp only [if_true]; exact put_eval_same hz
      · simp only [if_true]; exact h.below.size
      · simpa using heap_alloc_new W (.cells y.zero y.T (0, 0))
    · rw [addL_ne L e] at hLy
      obtain ⟨h1, h2, h3⟩ := h.row y hy hLy
      have hsl : y.sl ≠ x.sl := fun q => e (by rw [nodup_get (·.sl) hk hy hx q])
      rw [addL_ne L (fun e => hi2 (List.mem_map.2 ⟨y, hy, e⟩))]
      simp only [if_neg e]
      exact ⟨(put_eval_ne hsl).trans h1, h2, (Below.heap_alloc _ _ _ (blk_lt h3)).trans h3⟩
  inj y hy z hz' hne h1 h2 := by
    by_cases e : y.ia = x.ia
    · have e2 : ¬ z.ia = x.ia := fun q => hne (e.trans q.symm)
      simp only [if_pos e, if_neg e2]
      rw [addL_ne L e2] at h2
      have := blk_lt (h.row z hz' h2).2.2
      omega
    · rw [addL_ne L e] at h1
      by_cases e2 : z.ia = x.ia
      · simp only [if_neg e, if_pos e2]
        have := blk_lt (h.row y hy h1).2.2
        omega
      · rw [addL_ne L e2] at h2
        simp only [if_neg e, if_neg e2]
        exact h.inj y hy z hz' hne h1 h2
  ord y hy hLy := by
    rw [addL_ne L (fun e => hi2 (List.mem_map.2 ⟨y, hy, e⟩))] at hLy
    exact addL_mono _ (h.ord y hy hLy)
theorem AInvs.store (h : AInvs W0 S L a W G) (hn : (S.map (·.ia)).Nodup) (hm : (S.map (·.is)).Nodup) {x : Al} (hx : x ∈ S) (hi2 : x.is ∉ S.map (·.ia)) (h1 : L x.ia = true) (h2 : L x.is = false) : AInvs W0 S (addL L x.is) a (W.setRow (G x.ia) x.new) G where
  below := below_setRow h.below (h.row x hx h1).2.1 _
  row y hy hLy := by
    rw [addL_ne L (fun e => hi2 (List.mem_map.2 ⟨y, hy, e⟩))] at hLy
    obtain ⟨e1, e2, e3⟩ := h.row y hy hLy
    by_cases e : y.ia = x.ia
    · obtain rfl := nodup_get (·.ia) hn hy hx e
      rw [addL_self]
      refine ⟨e1, e2, ?_⟩
      rw [if_pos rfl]
      exact setRow_heap W _ _ _ _ _ e3
    · have hs : y.is ≠ x.is := fun q => e (by rw [nodup_get (·.is) hm hy hx q])
      rw [addL_ne L hs]
      exact ⟨e1, e2, (setRow_other W _ _ _ (h.inj y hy x hx e hLy h1)).trans e3⟩
  inj y hy z hz hne k1 k2 := by
    rw [addL_ne L (fun e => hi2 (List.mem_map.2 ⟨y, hy, e⟩))] at k1
    rw [addL_ne L (fun e => hi2 (List.mem_map.2 ⟨z, hz, e⟩))] at k2
    exact h.inj y hy z hz hne k1 k2
  ord y hy hLy := by
    rw [addL_ne L (fun e => hi2 (List.mem_map.2 ⟨y, hy, e⟩))]
    by_cases e : y.is = x.is
    · obtain rfl := nodup_get (·.is) hm hy hx e
      exact h1
    · rw [addL_ne L e] at hLy
      exact h.ord y hy hLy
end
end Go.Proofs.Ytaoflcmjmhfblaa.H
/- A region that draws its order and calls functions whose results are told by a predicate alone (a fresh slice). -/
namespace Go.Proofs.Ytaoflcmjmhfblaa.H
open Go.RowKit Go.Proofs.YtaoflcmjmhfblaaW.PrintWords Go.Proofs.YtaoflcmjmhfblaaW.PrintLast Go.Proofs.YtaoflcmjmhfblaaW.PrintMore
set_option linter.unusedVariables false
set_option linter.unusedSimpArgs false
set_option linter.unusedSectionVars false
/-- A result of which P alone is told (operation i, slot s). -/
structure Fr where
  i : Nat
  s : Nat
  P : Value → World → Prop
  mono : ∀ {v : Value} {W W' : World}, Below W.heap.size W W' → P v W → P v W'
structure FInv (W0 : World) (F : List Fr) (L : Nat → Bool) (a : Act) (W : World) : Prop where
  below : Below W0.heap.size W0 W
  told : ∀ f ∈ F, L f.i = true → f.P (a.eval (.tmp f.s)) W
section
variable {W0 W W2 : World} {F : List Fr} {L : Nat → Bool} {a : Act}
theorem FInv.start (a : Act) (hb : Below W0.heap.size W0 W) : FInv W0 F (fun _ => false) a W := ⟨hb, fun _ _ h => by cases h⟩
theorem FInv.val (h : FInv W0 F L a W) {i s : Nat} {v : Value} (hi : i ∉ F.map (·.i)) (hs : s ∉ F.map (·.s)) (hb : Below W.heap.size W W2) : FInv W0 F (addL L i) (a.put (some s) v) W2 where
  below := below_step h.below hb
  told f hf hL := by
    rw [addL_ne L (fun e => hi (List.mem_map.2 ⟨f, hf, e⟩))] at hL
    rw [put_eval_ne (fun e => hs (List.mem_map.2 ⟨f, hf, e⟩))]
    exact f.mono hb (h.told f hf hL)
theorem FInv.val0 (h : FInv W0 F L a W) {i s : Nat} {v : Value} (hi : i ∉ F.map (·.i)) (hs : s ∉ F.map (·.s)) : FInv W0 F (addL L i) (a.put (some s) v) W := h.val hi hs (Below.refl _ _)
theorem FInv.put (h : FInv W0 F L a W) (hn : (F.map (·.i)).Nodup) (hk : (F.map (·.s)).Nodup) {f : Fr} (hf : f ∈ F) (hz : f.s < a.tmps.size) {v : Value} (hb : Below W.heap.size W W2) (hv : f.P v W2) : FInv W0 F (addL L f.i) (a.put (some f.s) v) W2 where
  below := below_step h.below hb
  told g hg hL := by
    by_cases e : g.i = f.i
    · obtain rfl := nodup_get (·.i) hn hg hf e
      rw [put_eval_same hz]
      exact hv
    · rw [addL_ne L e] at hL
      have hs : g.s ≠ f.s := fun q => e (by rw [nodup_get (·.s) hk hg hf q])
      rw [put_eval_ne hs]
      exact g.mono hb (h.told g hg hL)
theorem FInv.skip (h : FInv W0 F L a W) {i : Nat} (hi : i ∉ F.map (·.i)) : FInv W0 F (addL L i) a W where
  below := h.below
  told f hf hL := by
    rw [addL_ne L (fun e => hi (List.mem_map.2 ⟨f, hf, e⟩))] at hL
    exact h.told f hf hL
end
section
variable {P : Program} {ops : Array Oper} {Q : Exit → Act → World → Prop} {K : Act → World → Prop} {o : Oper} {a : Act} {w w' : World}
/-- A guarded call that is made. -/
theorem stp_call_yes {s j : Nat} {want : Bool} {oj : Oper} {f : FuncId} {fn : Func} {xs : Array Operand} {ts : Array TypeId} {args : Array Value} (hg : o.guard = some (j, want)) (hj : ops[j]? = some oj) (hd : oj.dst = some s) (hE : a.eval (.tmp s) = .bool want) (hf : P.funcs[f]? = some fn) (hname : (fn.name == "runtime.NumGoroutine") = false) (hb : fn.body.isSome = true)
    (hop : o.op = .call { callee := .value (.func f), args := xs, argTypes := ts }) (hargs : xs.map a.eval = args)
    (h : Calls P f args w fun e w' => ∃ v, e = .returned v ∧ K (a.put o.dst v) w') : StepOk P ops o a w K Q := by
  have hy := yielded_slot hj hd hE
  refine ⟨fun _ => ?_, fun h2 => absurd h2 (by simp [Region.wanted, hg, hy])⟩
  have he := enters_ hf hname hb args w
  have hrun : (execOp a.eval o).run P w = .ok (.enter f args) w := by
    unfold execOp
    simp [hop, resolve, Deferred.ofValue, invoke, Act.eval, hargs, he]
  unfold Oper.wp
  rw [hrun, Oper.upon_enter]
  refine h.mono fun e w'' hh => ?_
  obtain ⟨v, rfl, hk⟩ := hh
  exact hk
end
end Go.Proofs.Ytaoflcmjmhfblaa.H
/- Steps of a drawn region behind a guard whose answer is known. -/
namespace Go.Proofs.Ytaoflcmjmhfblaa.H
open Go.RowKit Go.Proofs.YtaoflcmjmhfblaaW.PrintWords Go.Proofs.YtaoflcmjmhfblaaW.PrintLast Go.Proofs.YtaoflcmjmhfblaaW.PrintMore
set_option linter.unusedVariables false
set_option linter.unusedSimpArgs false
set_option linter.unusedSectionVars false
section
variable {P : Program} {ops : Array Oper} {Q : Exit → Act → World → Prop} {K : Act → World → Prop} {o : Oper} {a : Act} {w w' : World}
theorem stp_skip {s j : Nat} {b want : Bool} {oj : Oper} (hg : o.guard = some (j, want)) (hj : ops[j]? = some oj) (hd : oj.dst = some s) (hE : a.eval (.tmp s) = .bool b) (hne : ¬ b = want) (h : K (a.put o.dst undef) w) : StepOk P ops o a w K Q := by
  have hy := yielded_slot hj hd hE
  refine ⟨fun hw => absurd (by simpa [Region.wanted, hg, hy] using hw) hne, fun _ => h⟩
theorem stp_yes {s j : Nat} {want : Bool} {oj : Oper} {v : Value} (hg : o.guard = some (j, want)) (hj : ops[j]? = some oj) (hd : oj.dst = some s) (hE : a.eval (.tmp s) = .bool want)
    (hrun : (execOp a.eval o).run P w = .ok (.value v) w') (h : K (a.put o.dst v) w') : StepOk P ops o a w K Q := by
  have hy := yielded_slot hj hd hE
  refine ⟨fun _ => ?_, fun h2 => absurd h2 (by simp [Region.wanted, hg, hy])⟩
  unfold Oper.wp
  rw [hrun]
  exact h
theorem stp_yes1 {s j : Nat} {want : Bool} {oj : Oper} {v : Value} (x : Operand) (u : Value) (hg : o.guard = some (j, want)) (hj : ops[j]? = some oj) (hd : oj.dst = some s) (hE : a.eval (.tmp s) = .bool want) (hx : a.eval x = u)
    (hrun : ∀ ρ : Operand → Value, (∀ v, ρ (.const v) = v) → ρ x = u → (execOp ρ o).run P w = .ok (.value v) w') (h : K (a.put o.dst v) w') : StepOk P ops o a w K Q :=
  stp_yes hg hj hd hE (hrun _ (fun _ => rfl) hx) h
theorem stp_yes2 {s j : Nat} {want : Bool} {oj : Oper} {v : Value} (x : Operand) (u : Value) (x2 : Operand) (u2 : Value) (hg : o.guard = some (j, want)) (hj : ops[j]? = some oj) (hd : oj.dst = some s) (hE : a.eval (.tmp s) = .bool want) (hx : a.eval x = u) (hx2 : a.eval x2 = u2)
    (hrun : ∀ ρ : Operand → Value, (∀ v, ρ (.const v) = v) → ρ x = u → ρ x2 = u2 → (execOp ρ o).run P w = .ok (.value v) w') (h : K (a.put o.dst v) w') : StepOk P ops o a w K Q :=
  stp_yes hg hj hd hE (hrun _ (fun _ => rfl) hx hx2) h
end
end Go.Proofs.Ytaoflcmjmhfblaa.H
