/- What the contracts of functions that take function values share: predicates, the first place where one holds. -/
import Derived.Test.YtgiokbhedblkfaaBase
import Derived.Shelf.Abstract
import Derived.Laws.CopyRow
import Derived.Laws.CopyOwn
import Derived.Lib.SliceRun
namespace Go.Proofs.Ytgiokbhedblkfaa.H
open Go.RowKit Go.Proofs.YtgiokbhedblkfaaW.PrintWords Go.Proofs.YtgiokbhedblkfaaW.PrintLast Go.Proofs.YtgiokbhedblkfaaW.PrintMore
set_option linter.unusedVariables false
set_option linter.unusedSimpArgs false
/-- A function value (function g, what it has captured: cap) tells p of every x, in every world that has come of w by growth alone. -/
def PredW (P : Program) (g : Nat) (cap : Array Value) {α : Type} (enc : α → Value) (p : α → Bool) (w : World) : Prop :=
  ∀ (W : World) (x : α), Below w.heap.size w W → Calls P g (#[enc x] ++ cap) W fun e w' => e = .returned (.bool (p x)) ∧ Below W.heap.size W w'
theorem PredW.later {P : Program} {g : Nat} {cap : Array Value} {α : Type} {enc : α → Value} {p : α → Bool} {w w1 : World} (h : PredW P g cap enc p w) (hb : Below w.heap.size w w1) : PredW P g cap enc p w1 :=
  fun W x hW => h W x (below_step hb hW)
/-- The first place of which p holds; -1, if there is none. -/
def idxI {α : Type} (p : α → Bool) (l : List α) : Int := match l.findIdx? p with | some i => (i : Int) | none => -1
theorem idxI_hit {α : Type} (p : α → Bool) (l : List α) (k : Nat) (y : α) (hy : l[k]? = some y) (h : p y = true) (hm : ∀ j, j < k → p (l.getD j y) = false) : idxI p l = k := by
  have hk := (List.getElem?_eq_some_iff.1 hy).1
  have : l.findIdx? p = some k := by
    rw [List.findIdx?_eq_some_iff_getElem]
    refine ⟨hk, by rw [(List.getElem?_eq_some_iff.1 hy).2]; exact h, fun j hj => ?_⟩
    have := hm j hj
    rw [List.getD_eq_getElem?_getD, List.getElem?_eq_getElem (by omega)] at this
    simpa using this
  rw [idxI, this]
theorem getD_any {α : Type} (l : List α) (j : Nat) (a b : α) (h : j < l.length) : l.getD j a = l.getD j b := by
  rw [List.getD_eq_getElem?_getD, List.getD_eq_getElem?_getD, List.getElem?_eq_getElem h]; rfl
theorem idxI_miss {α : Type} (p : α → Bool) (l : List α) (z : α) (hm : ∀ j, j < l.length → p (l.getD j z) = false) : idxI p l = -1 := by
  have : l.findIdx? p = none := by
    rw [List.findIdx?_eq_none_iff]
    intro x hx
    obtain ⟨i, hi, rfl⟩ := List.mem_iff_getElem.1 hx
    have := hm i hi
    rwa [List.getD_eq_getElem?_getD, List.getElem?_eq_getElem hi] at this
  rw [idxI, this]
theorem idxI_any {α : Type} (p : α → Bool) (l : List α) : decide (0 ≤ idxI p l) = l.any p := by
  unfold idxI
  cases h : l.findIdx? p with
  | none =>
    rw [List.findIdx?_eq_none_iff] at h
    have : l.any p = false := by rw [List.any_eq_false]; intro x hx; simp [h x hx]
    rw [this]; rfl
  | some i =>
    obtain ⟨hi, hp, _⟩ := List.findIdx?_eq_some_iff_getElem.1 h
    have : l.any p = true := List.any_eq_true.2 ⟨_, List.getElem_mem hi, hp⟩
    rw [this]; show decide (0 ≤ (i : Int)) = true; exact decide_eq_true (by omega)
theorem wpList_load_any {P : Program} {ops : Array Oper} {rest : List Oper} {op : Oper} {a : Act} {w : World} {Q : Exit → Act → World → Prop} (hgd : op.guard = none) (ty : TypeId) (x : Operand) (ho : op.op = .load ty x)
    (p : Addr) (hx : a.eval x = .pointer (some p)) (cs : List Value) (d : TypeDesc) (hc : ∀ j v, cs[j]? = some v → w.cell? (p.add j) = some v)
    (hu : P.underlying ty = some d) (hd : d.isRow = true) (hi : (P.info? ty).map (·.size) = some cs.length)
    (h : wpList P ops Q rest (a.put op.dst (.agg cs.toArray)) w) : wpList P ops Q (op :: rest) a w :=
  wpList_plain hgd fun _ hK => by
    have hl : (loadCells p cs.length).run P w = .ok cs.toArray w := run_loadCells_list (P := P) w p cs hc
    have hv : (loadVar ty p).run P w = .ok (.agg cs.toArray) w := by
      cases hq : P.info? ty with
      | none => simp [hq] at hi
      | some i =>
        have hs : i.size = cs.length := by simpa [hq] using hi
        have hagg : (isAgg ty).run P w = .ok true w := by
          unfold isAgg
          rw [Sem.run_bind, run_underlying hu w]
          cases d <;> simp_all
        simp [loadVar, Sem.run_bind, hagg, sizeOf, typeInfo, hq, hs, hl]
    unfold Oper.wp execOp
    simp only [ho, hx, Instr.loadAt, Instr.sureAddr, Sem.run_bind, Sem.run_pure, Result.andThen_ok, hv]
    exact hK _ _ h

/-- clear(s[i:]) of a row of one's own: what stands ahead of i stays. -/
theorem clear_tail {α : Type} (d : Kd α) {P : Program} (t e : TypeId) (z : Value) (ht : P.underlying t = some (.slice e)) (hv : ∀ w, (zeroValue e).run P w = .ok z w) (hz : z.cells.size = d.sz) (h1 : ∀ u ∈ z.cells, u.oneCell' = true)
    {W : World} {base : Nat} {ok : Nat → Prop} {g n c : Nat} {xs : List α} (h : d.R e W base ok (.slice (some ⟨g, 0, none⟩) n c) xs) (i : Nat) (hi : i < n) :
    ∃ W', (∀ ty, (Builtin.clear_ #[t] ty #[.slice (some ⟨g, i * d.sz, none⟩) (n - i) (c - i)]).run P W = .ok (.tuple #[]) W') ∧ d.R e W' base ok (.slice (some ⟨g, 0, none⟩) i c) (xs.take i) ∧ ∀ w0, Below base w0 W → Below base w0 W' := by
  obtain ⟨hn, hnc, _⟩ := Kd.R_reads' h
  obtain ⟨h0, inner, ⟨ho1, ho2⟩, hr⟩ := h
  rcases ho2 with ⟨hvn, _⟩ | ⟨g', cap', cur, hvn, hb, hh, hnc', hcm, hcs, htk⟩
  · cases hvn
  injection hvn with ha _ hc
  injection ha with ha
  injection ha with hg
  subst hg; subst hc
  obtain ⟨m, hm⟩ : ∃ m, n - i = m + 1 := ⟨n - i - 1, by omega⟩
  have hlen : (Builtin.zeroCells z.cells (n - i)).toList.length = (n - i) * d.sz := by rw [Array.length_toList, size_zeroCells, hz]
  have hsum : i * d.sz + (n - i) * d.sz = n * d.sz := by rw [← Nat.add_mul]; congr 1; omega
  have hncs : n * d.sz ≤ c * d.sz := Nat.mul_le_mul_right _ hnc
  have hone : ∀ v ∈ (Builtin.zeroCells z.cells (n - i)).toList, v.oneCell' = true := by
    intro v hv'
    rw [Array.mem_toList_iff] at hv'
    unfold Builtin.zeroCells at hv'
    rw [Array.mem_map] at hv'
    obtain ⟨q, hq, rfl⟩ := hv'
    rw [Array.mem_range] at hq
    have hpos : 0 < z.cells.size := by
      rcases Nat.eq_zero_or_pos z.cells.size with e0 | e0
      · rw [e0] at hq; simp at hq
      · exact e0
    have hlt : q % z.cells.size < z.cells.size := Nat.mod_lt _ hpos
    rw [getElem!_pos z.cells _ hlt]
    exact h1 _ (Array.getElem_mem hlt)
  have hst := run_storeCells_at (P := P) g (i * d.sz) e (Builtin.zeroCells z.cells (n - i)).toList 0 cur W hh (by rw [hlen, hcs]; omega) hone
  obtain ⟨cs', hcs'⟩ : ∃ cs', cs' = (cur.toList.take (i * d.sz + 0) ++ (Builtin.zeroCells z.cells (n - i)).toList ++ cur.toList.drop (i * d.sz + 0 + (Builtin.zeroCells z.cells (n - i)).toList.length)).toArray := ⟨_, rfl⟩
  rw [← hcs'] at hst
  refine ⟨W.setRow g cs', fun ty => ?_, ?_, ?_⟩
  rotate_left
  · have hsz : cs'.size = c * d.sz := by
      rw [hcs']; simp only [List.size_toArray, List.length_append, List.length_take, List.length_drop, Array.length_toList]
      rw [Array.length_toList] at hlen
      rw [hlen, hcs]; omega
    have hfar : ∀ k, k ≠ g → (W.setRow g cs').heap[k]? = W.heap[k]? := fun k hk => setRow_other W g k cs' hk
    have hil : i ≤ xs.length := by omega
    refine ⟨h0, inner.take (i * d.sz), ⟨?_, .inr ⟨g, c, cs', by rw [List.length_take, Nat.min_eq_left hil], hb, setRow_heap W g cur cs' e (0, 0) hh, by rw [List.length_take]; omega, hcm, hsz, ?_⟩⟩, ?_⟩
    · rw [List.length_take, List.length_take, hr.1, Nat.min_eq_left hil, Nat.min_eq_left (Nat.mul_le_mul_right _ hil)]
    · rw [List.length_take, Nat.min_eq_left hil, hcs', ← htk, ← hn, List.take_take, Nat.min_eq_left (Nat.mul_le_mul_right _ (by omega))]
      simp only [Nat.add_zero, List.append_assoc]
      rw [List.take_append_of_le_length (by rw [List.length_take, Array.length_toList, hcs]; have := Nat.mul_le_mul_right d.sz (show i ≤ c by omega); omega), List.take_take, Nat.min_self]
    · refine ⟨by rw [List.length_take, List.length_take, hr.1, Nat.min_eq_left hil, Nat.min_eq_left (Nat.mul_le_mul_right _ hil)], fun j p hp => ?_⟩
      have hj := (List.getElem?_eq_some_iff.1 hp).1
      rw [List.length_take] at hj
      have hji : j < i := by omega
      rw [List.getElem?_take, if_pos hji] at hp
      have hM := hr.2 j p hp
      have e2 : ((inner.take (i * d.sz)).drop (j * d.sz)).take d.sz = (inner.drop (j * d.sz)).take d.sz := by
        rw [List.drop_take, List.take_take]
        congr 1
        have : j * d.sz + d.sz ≤ i * d.sz := by rw [← Nat.succ_mul]; exact Nat.mul_le_mul_right _ hji
        omega
      rw [e2]
      have ob : (Value.slice (some ⟨g, 0, none⟩) (xs.take i).length c).ownBlock = (Value.slice (some ⟨g, 0, none⟩) xs.length c).ownBlock := rfl
      refine d.M_move (fun k hk => hfar k (fun he => hk.2 ?_)) (d.M_mono (fun k hk => ⟨hk.1, by exact hk.2⟩) hM)
      rw [he]; rfl
  · intro w0 hB
    exact below_setRow hB hb _
  · rw [hm] at hst ⊢
    simp only [Builtin.clear_]
    simp [run_underlying ht, hv, hst]

theorem add_lit0 (g k : Nat) : (({ block := g, off := 0, spot := none } : Addr).add k) = ⟨g, k, none⟩ := by
  unfold Addr.add
  by_cases h : k = 0 <;> simp [h]
theorem hAD2 {α : Type} {d : Kd α} {e : Nat} {w : World} {base : Nat} {ok : Nat → Prop} {gb n c : Nat} {ad : Addr} {xs : List α} (h : ad = ⟨gb, 0, none⟩) (ho : d.R e w base ok (.slice (some ad) n c) xs) : d.R e w base ok (.slice (some ⟨gb, 0, none⟩) n c) xs := by
  subst h; exact ho
/-- A whole element is written in a row of one's own. -/
theorem storeWhole {α : Type} {P : Program} {ops : Array Oper} {o : Oper} {rest : List Oper} {a : Act} {Q : Exit → Act → World → Prop} (d : Kd α) {w0 W : World} (base : Nat) (hN : o.dst = none) (hgd : o.guard = none) (t : TypeId) (p x : Operand) (ho : o.op = .store t p x) (e : TypeId) {g n cap i : Nat} (xs : List α) (x' : α) (u : Value) (seg : List Value) (ok okp : Nat → Prop)
    (haddr : a.eval p = .pointer (some ⟨g, i * d.sz, none⟩)) (hx : a.eval x = u) (hu : u.cells.toList = seg) (ht : (P.info? t).map (·.size) = some seg.length) (h1 : ∀ q ∈ seg, q.oneCell' = true)
    (HO : d.R e W base ok (.slice (some ⟨g, 0, none⟩) n cap) xs) (hi : i < n) (hM : d.M W base okp x' seg) (hokp : ∀ k, okp k → ok k ∧ k ≠ g) (HB : Below base w0 W)
    (h : ∀ w1, d.R e w1 base ok (.slice (some ⟨g, 0, none⟩) n cap) (xs.set i x') → Below base w0 w1 → wpList P ops Q rest a w1) : wpList P ops Q (o :: rest) a W := by
  obtain ⟨c, hcl, _, hcc, _⟩ := Kd.R_elem HO x' (i : Int) (by omega) (by omega)
  have hsl : seg.length = d.sz := d.K_len (d.K_of_M hM)
  refine Kd.R_store d (w0 := w0) base hN hgd t p x ho e (i : Int) 0 xs x' u seg c ok okp haddr (by rw [Int.toNat_natCast, Nat.add_zero]) hx hu ht h1 HO (by omega) (by omega) hcl hcc (by omega) ?_ hokp HB ?_
  · rw [List.take_zero, List.nil_append, Nat.zero_add, List.drop_of_length_le (by omega), List.append_nil]
    exact hM
  · intro w1 hr hb _
    rw [Int.toNat_natCast] at hr
    exact h w1 hr hb

theorem filt_keep {α : Type} {q : α → Bool} {xs l : List α} {i j : Nat} {y : α} (ht : xs.take i = (l.take j).filter q) (hl : l[j]? = some y) (hq : q y = true) (hi : i < xs.length) : (xs.set i y).take (i + 1) = (l.take (j + 1)).filter q := by
  rw [List.take_add_one (l := l), hl, List.filter_append, ← ht, List.take_add_one, List.getElem?_set_self hi, List.take_set_of_le (Nat.le_refl i)]
  simp [hq]
theorem filt_skip {α : Type} {q : α → Bool} {zs l : List α} {j : Nat} {y : α} (ht : zs = (l.take j).filter q) (hl : l[j]? = some y) (hq : q y = false) : zs = (l.take (j + 1)).filter q := by
  rw [List.take_add_one (l := l), hl, List.filter_append, ← ht]
  simp [hq]
theorem drop_next {α : Type} {xs l : List α} {j : Nat} (h : xs.drop j = l.drop j) : xs.drop (j + 1) = l.drop (j + 1) := by
  have h1 := congrArg (List.drop 1) h
  simpa [List.drop_drop] using h1
theorem drop_set_next {α : Type} {xs l : List α} {i j : Nat} {y : α} (h : xs.drop j = l.drop j) (hij : i < j) : (xs.set i y).drop (j + 1) = l.drop (j + 1) := by
  rw [List.drop_set_of_lt (by omega)]
  exact drop_next h

theorem run_loadVar_any {P : Program} {w : World} (ty : TypeId) (p : Addr) (cs : List Value) (d : TypeDesc) (hc : ∀ j v, cs[j]? = some v → w.cell? (p.add j) = some v)
    (hu : P.underlying ty = some d) (hd : d.isRow = true) (hi : (P.info? ty).map (·.size) = some cs.length) : (loadVar ty p).run P w = .ok (.agg cs.toArray) w := by
  have hl : (loadCells p cs.length).run P w = .ok cs.toArray w := run_loadCells_list (P := P) w p cs hc
  cases hq : P.info? ty with
  | none => simp [hq] at hi
  | some i =>
    have hs : i.size = cs.length := by simpa [hq] using hi
    have hagg : (isAgg ty).run P w = .ok true w := by
      unfold isAgg
      rw [Sem.run_bind, run_underlying hu w]
      cases d <;> simp_all
    simp [loadVar, Sem.run_bind, hagg, sizeOf, typeInfo, hq, hs, hl]
theorem run_loadVar_box {P : Program} {w : World} (ty : TypeId) (g t : Nat) (cs : Array Value) (fr : Nat × Nat) (d : TypeDesc) (hg : w.heap[g]? = some (.cells cs t fr))
    (hu : P.underlying ty = some d) (hd : d.isRow = true) (hi : (P.info? ty).map (·.size) = some cs.size) : (loadVar ty ⟨g, 0, none⟩).run P w = .ok (.agg cs) w := by
  have := run_loadVar_any (P := P) (w := w) ty ⟨g, 0, none⟩ cs.toList d (fun j v hv => by
    rw [add_lit0]; simp only [World.cell?, hg]; simpa using hv) hu hd (by simpa using hi)
  simpa using this
theorem res_cell {P : Program} {w : World} {fn : Func} {tmps : Array Value} {a t : Nat} {p : Addr} {v : Value} (hf : fn.results = #[.cell a t]) (ha : tmps.getD a undef = .pointer (some p)) (hl : (loadVar t p).run P w = .ok v w) : (results fn tmps).run P w = .ok v w := by
  have ha' : tmps[a]?.getD undef = .pointer (some p) := by simpa using ha
  simp [results, hf, ha', asAddr, hl]
theorem res_cell_tmp {P : Program} {w : World} {fn : Func} {tmps : Array Value} {a t b : Nat} {p : Addr} {v : Value} (hf : fn.results = #[.cell a t, .tmp b]) (ha : tmps.getD a undef = .pointer (some p)) (hl : (loadVar t p).run P w = .ok v w) : (results fn tmps).run P w = .ok (.tuple #[v, tmps.getD b undef]) w := by
  have ha' : tmps[a]?.getD undef = .pointer (some p) := by simpa using ha
  simp [results, hf, ha', asAddr, hl]
theorem new_cell (w : World) (v : Value) (t : TypeId) : (w.alloc (.cells #[v] t (0, 0))).cell? ⟨w.heap.size, 0, none⟩ = some v := by
  have h := heap_alloc_new w (.cells #[v] t (0, 0))
  unfold World.cell?
  simp only [h]
  rfl
/-- The captured variable lies in block gb. -/
theorem cap_later {w W : World} {gb : Nat} {v : Value} (h : w.cell? ⟨gb, 0, none⟩ = some v) (hb : Below w.heap.size w W) : W.cell? ⟨gb, 0, none⟩ = some v :=
  (hb.cell (World.block_lt_of_cell? w _ h)).trans h
theorem find_idx {α : Type} (p : α → Bool) (l : List α) : (l.find? p = none ∧ idxI p l = -1) ∨ ∃ (i : Nat) (x : α), i < l.length ∧ l[i]? = some x ∧ l.find? p = some x ∧ idxI p l = i := by
  unfold idxI
  cases h : l.findIdx? p with
  | none =>
    left
    rw [List.findIdx?_eq_none_iff] at h
    exact ⟨List.find?_eq_none.2 (fun x hx => by simp [h x hx]), rfl⟩
  | some i =>
    right
    obtain ⟨hi, hp, hb⟩ := List.findIdx?_eq_some_iff_getElem.1 h
    refine ⟨i, l[i], hi, List.getElem?_eq_getElem hi, ?_, rfl⟩
    rw [List.find?_eq_some_iff_getElem]
    exact ⟨hp, i, hi, rfl, fun j hj => by have := hb j hj; simpa using this⟩
end Go.Proofs.Ytgiokbhedblkfaa.H
