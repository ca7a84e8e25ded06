/- A controller's state, and an instance, as values: what package extra reads of them; its small functions. -/
import Derived.Test.YtnlcpgeapgnkgaaNumC
import Derived.Deep.MidRow
import Derived.Sort.Grow
import Derived.Lib.OwnBridge
import Derived.Lib.AppendIntMem
import Derived.Shelf.SlSortCmp.QuietGrown
import Derived.Shelf.GgSortFunc.SW
namespace Go.Proofs.Ytnlcpgeapgnkgaa.H
open Go.RowKit Go.Proofs.YtnlcpgeapgnkgaaW.PrintWords Go.Proofs.YtnlcpgeapgnkgaaW.PrintLast Go.Proofs.YtnlcpgeapgnkgaaW.PrintMore
set_option linter.unusedVariables false
set_option linter.unusedSimpArgs false
/-- What is read of a state. -/
structure StV where
  surge : Int
  replace : Bool
  version : Int
  desired : Int
  ia : Option Addr
  ilen : Nat
  ic : Nat
  oa : Option Addr
  olen : Nat
  oc : Nat
  on : Bool
  most : Int
  stopped : Bool
/-- The cells cs of a state read so. -/
structure StF (cs : Array Value) (s : StV) : Prop where
  size : cs.size = 55
  surge : cs[8]? = some (.int .i64 s.surge)
  replace : cs[16]? = some (.bool s.replace)
  version : cs[40]? = some (.int .u32 s.version)
  desired : cs[42]? = some (.int .i64 s.desired)
  insts : cs[46]? = some (.slice s.ia s.ilen s.ic)
  opens : cs[47]? = some (.slice s.oa s.olen s.oc)
  on : cs[48]? = some (.bool s.on)
  most : cs[50]? = some (.int .i64 s.most)
  stopped : cs[52]? = some (.bool s.stopped)
/-- The block g of the world w holds the record cs. -/
def Boxd (w : World) (g t : Nat) (cs : Array Value) : Prop := w.heap[g]? = some (.cells cs t (0, 0))
theorem Boxd.new (w : World) (t : Nat) (cs : Array Value) : Boxd (w.alloc (.cells cs t)) w.heap.size t cs := heap_alloc_new _ _
theorem Boxd.lt {w : World} {g t : Nat} {cs : Array Value} (h : Boxd w g t cs) : g < w.heap.size := by
  rcases Nat.lt_or_ge g w.heap.size with q | q
  · exact q
  · unfold Boxd at h; rw [Array.getElem?_eq_none q] at h; cases h
theorem Boxd.cell {w : World} {g t : Nat} {cs : Array Value} (h : Boxd w g t cs) {k : Nat} {v : Value} (hv : cs[k]? = some v) : w.cell? ⟨g, k, none⟩ = some v := by
  unfold Boxd at h
  simp [World.cell?, h, hv]
theorem Boxd.below {w w' : World} {g t : Nat} {cs : Array Value} (h : Boxd w g t cs) (hb : Below w.heap.size w w') : Boxd w' g t cs := (hb.block g h.lt).trans h
/-- A record of the whole block g is loaded. -/
theorem Boxd.load {P : Program} {w : World} {g t ty : Nat} {cs : Array Value} {d : TypeDesc} (h : Boxd w g t cs) (hu : P.underlying ty = some d) (hd : d.isRow = true) (hi : (P.info? ty).map (·.size) = some cs.size) :
    (Instr.loadAt ty (.pointer (some ⟨g, 0, none⟩))).run P w = .ok (.agg cs) w := by
  have := run_loadAt_mid (P := P) w g 0 ty cs.toList d (fun j v hv => by rw [Nat.zero_add]; exact h.cell (by simpa using hv)) hu hd (by simpa using hi)
  simpa using this
/-- A world that has some blocks more. -/
def Grw (w w' : World) : Prop := ∃ os, w' = Go.Sort.grow w os
theorem Grw.refl (w : World) : Grw w w := ⟨#[], (Go.Sort.grow_empty w).symm⟩
theorem Grw.alloc {w w' : World} (h : Grw w w') (o : Obj) : Grw w (w'.alloc o) := by
  obtain ⟨os, rfl⟩ := h
  exact ⟨os ++ #[o], by rw [Go.Sort.alloc_eq_grow, Go.Sort.grow_grow]⟩
theorem Grw.trans {w w1 w2 : World} (h : Grw w w1) (h2 : Grw w1 w2) : Grw w w2 := by
  obtain ⟨os, rfl⟩ := h
  obtain ⟨os2, rfl⟩ := h2
  exact ⟨os ++ os2, by rw [Go.Sort.grow_grow]⟩
theorem Grw.below {w w' : World} (h : Grw w w') : Below w.heap.size w w' := by
  obtain ⟨os, rfl⟩ := h
  exact Go.Lib.below_grow w.heap.size w (Nat.le_refl _) 0 os
theorem Grw.quiet {P : Program} {f : FuncId} {args : Array Value} {w : World} {v : Value} (h : Calls P f args w fun e w' => e = .returned v ∧ Grw w w') : Calls P f args w fun e w' => e = .returned v ∧ ∃ q os', w' = Go.Sort.grow (w.drewN q) os' :=
  h.mono fun _ _ ⟨he, os, hw⟩ => ⟨he, 0, os, hw⟩
def goes (s : StV) : Bool := s.on && !s.stopped
set_option maxRecDepth 100000 in
theorem goes_calls {cs : Array Value} {s : StV} (h : StF cs s) (w : World) : Calls Try.prog 29 #[.agg cs] w fun e w' => e = .returned (.bool (goes s)) ∧ Grw w w' := by
  have h1 := h.on
  have h2 := h.stopped
  clear h
  unfold goes
  go_enter Try.func29, Try.ntmps29
  go_wp2_with (fail)
  all_goals (go_ret; exact ⟨ret_b (by simp [*]), (Grw.refl _).alloc _⟩)

/-- An instance. -/
structure InV where
  id : Int
  token : Int
  pool : Int
  weight : Int
  spot : Bool
  state : Int
  due : Int
  noticed : Bool
  kill : Int
  risk : Bool
  held : Bool
  version : Int
def InV.cells (i : InV) : Array Value := #[.int .u64 i.id, .int .u64 i.token, .int .i64 i.pool, .int .i64 i.weight, .bool i.spot, .int .u8 i.state, .int .u64 i.due, .bool i.noticed, .int .u64 i.kill, .bool i.risk, .bool i.held, .int .u32 i.version]
def InV.val (i : InV) : Value := .agg i.cells
def serves (i : InV) : Bool := i.state == 3
def comes (i : InV) : Bool := i.state == 1 || i.state == 2 || i.state == 9
def instMay (i : InV) : Bool := !(decide (i.id < 1) || decide (4611686018427387904 < i.id) || decide (4611686018427387904 < i.token)) && !(decide (i.pool < 0) || decide (64 ≤ i.pool) || decide (i.weight < 1) || decide (100 < i.weight)) && !(decide (i.state < 1) || decide (9 < i.state)) && (decide (i.due ≤ 1099511758848) && decide (i.kill ≤ 1099511758848) && (i.noticed || i.kill == 0))
set_option maxRecDepth 100000 in
theorem serves_calls (i : InV) (w : World) : Calls Try.prog 31 #[i.val] w fun e w' => e = .returned (.bool (serves i)) ∧ Grw w w' := by
  obtain ⟨i0, i1, i2, i3, i4, i5, i6, i7, i8, i9, i10, i11⟩ := i
  simp only [InV.val, InV.cells, serves]
  go_enter Try.func31, Try.ntmps31
  go_wp2_with (fail)
  all_goals (go_ret; exact ⟨rfl, (Grw.refl _).alloc _⟩)
set_option maxRecDepth 100000 in
theorem comes_calls (i : InV) (w : World) : Calls Try.prog 32 #[i.val] w fun e w' => e = .returned (.bool (comes i)) ∧ Grw w w' := by
  obtain ⟨i0, i1, i2, i3, i4, i5, i6, i7, i8, i9, i10, i11⟩ := i
  simp only [InV.val, InV.cells, comes]
  go_enter Try.func32, Try.ntmps32
  go_wp2_with (fail)
  all_goals (go_ret; exact ⟨ret_b (by simp [*]), (Grw.refl _).alloc _⟩)
set_option maxHeartbeats 1000000 in
set_option maxRecDepth 100000 in
theorem instMay_calls (i : InV) (w : World) : Calls Try.prog 60 #[i.val] w fun e w' => e = .returned (.bool (instMay i)) ∧ Grw w w' := by
  obtain ⟨i0, i1, i2, i3, i4, i5, i6, i7, i8, i9, i10, i11⟩ := i
  obtain ⟨r, hr⟩ : ∃ r, instMay ⟨i0, i1, i2, i3, i4, i5, i6, i7, i8, i9, i10, i11⟩ = r := ⟨_, rfl⟩
  rw [hr]
  have HR := Lib.hid hr
  clear hr
  simp only [InV.val, InV.cells]
  go_enter Try.func60, Try.ntmps60
  go_wp2_with (fail)
  all_goals (go_ret; exact ⟨ret_b (by rw [← HR.out]; simp [instMay, *] <;> (intros; exfalso; omega)), (Grw.refl _).alloc _⟩)
set_option maxHeartbeats 1000000 in
set_option maxRecDepth 100000 in
theorem rinstMay_calls (i : InV) (w : World) : Calls Try.prog 27 #[i.val] w fun e w' => e = .returned (.bool (instMay i)) ∧ Grw w w' := by
  obtain ⟨i0, i1, i2, i3, i4, i5, i6, i7, i8, i9, i10, i11⟩ := i
  obtain ⟨r, hr⟩ : ∃ r, instMay ⟨i0, i1, i2, i3, i4, i5, i6, i7, i8, i9, i10, i11⟩ = r := ⟨_, rfl⟩
  rw [hr]
  have HR := Lib.hid hr
  clear hr
  simp only [InV.val, InV.cells]
  go_enter Try.func27, Try.ntmps27
  go_wp2_with (fail)
  all_goals (go_ret; exact ⟨ret_b (by rw [← HR.out]; simp [instMay, *] <;> (intros; exfalso; omega)), (Grw.refl _).alloc _⟩)

def old (s : StV) (i : InV) : Bool := goes s && i.version != s.version
def risky (s : StV) (i : InV) : Bool := s.replace && i.risk
theorem grow2 (w : World) (o1 o2 : Obj) : Grw w ((w.alloc o1).alloc o2) := ((Grw.refl _).alloc _).alloc _
theorem below2 (w : World) (o1 o2 : Obj) : Below w.heap.size w ((w.alloc o1).alloc o2) := ((Below.refl _ _).alloc (Nat.le_refl _) _).alloc (by simp) _
set_option maxRecDepth 100000 in
theorem risky_calls {cs : Array Value} {s : StV} (h : StF cs s) (i : InV) (w : World) : Calls Try.prog 35 #[.agg cs, i.val] w fun e w' => e = .returned (.bool (risky s i)) ∧ Grw w w' := by
  have h1 := h.replace
  clear h
  obtain ⟨i0, i1, i2, i3, i4, i5, i6, i7, i8, i9, i10, i11⟩ := i
  simp only [InV.val, InV.cells, risky]
  go_enter Try.func35, Try.ntmps35
  go_wp2_with (fail)
  all_goals (go_ret; exact ⟨ret_b (by simp [*]), ((Grw.refl _).alloc _).alloc _⟩)
set_option maxRecDepth 100000 in
theorem old_calls {cs : Array Value} {s : StV} (h : StF cs s) (i : InV) (w : World) : Calls Try.prog 37 #[.agg cs, i.val] w fun e w' => e = .returned (.bool (old s i)) ∧ Grw w w' := by
  have h1 := h.version
  have hz := h.size
  have K := Lib.hid (fun W => goes_calls h W)
  clear h
  obtain ⟨i0, i1, i2, i3, i4, i5, i6, i7, i8, i9, i10, i11⟩ := i
  simp only [InV.val, InV.cells, old]
  obtain ⟨b, hb⟩ : ∃ b, goes s = b := ⟨_, rfl⟩
  rw [hb] at K ⊢
  have B1 := (Boxd.new w 36 cs).below ((Below.refl (w.alloc (.cells cs 36)).heap.size (w.alloc (.cells cs 36))).alloc (Nat.le_refl _) (.cells #[.int .u64 i0, .int .u64 i1, .int .i64 i2, .int .i64 i3, .bool i4, .int .u8 i5, .int .u64 i6, .bool i7, .int .u64 i8, .bool i9, .bool i10, .int .u32 i11] 41))
  have B2 := Boxd.new (w.alloc (.cells cs 36)) 41 #[.int .u64 i0, .int .u64 i1, .int .i64 i2, .int .i64 i3, .bool i4, .int .u8 i5, .int .u64 i6, .bool i7, .int .u64 i8, .bool i9, .bool i10, .int .u32 i11]
  have HW := Lib.hid (grow2 w (.cells cs 36) (.cells #[.int .u64 i0, .int .u64 i1, .int .i64 i2, .int .i64 i3, .bool i4, .int .u8 i5, .int .u64 i6, .bool i7, .int .u64 i8, .bool i9, .bool i10, .int .u32 i11] 41))
  have e1 : (w.alloc (.cells cs 36)).heap.size = w.heap.size + 1 := by simp
  rw [e1] at B2
  have HB1 := Lib.hid B1
  have HB2 := Lib.hid B2
  have HV := Lib.hid h1
  have HZ := Lib.hid hz
  clear hb B1 B2 hz e1 h1
  go_enter Try.func37, Try.ntmps37
  go_wp2_with (first
    | ((with_reducible refine gate_load 36 rfl ?_); refine wpList_load_row rfl 36 _ rfl _ rfl 36 _ _ _ HB1.out Try.underlying36 rfl (by rw [HZ.out]; kernel_rfl) ?_)
    | (go_at_call 29; refine (K.out _).mono ?_; rintro e w1 ⟨rfl, hg⟩; have hb := hg.below; have c1 := (HB1.out.below hb).cell HV.out; have c2 := (HB2.out.below hb).cell (k := 11) rfl; have HW2 := Lib.hid (HW.out.trans hg); clear hb hg))
  all_goals (go_ret; exact ⟨ret_b (by simp [*]), HW2.out⟩)
end Go.Proofs.Ytnlcpgeapgnkgaa.H
