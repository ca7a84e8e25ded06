/- The plain law of ExtraEnds: a refresh in which all are of the Version has ended, and nothing gives way; one in which something that serves is not has not. -/
import Derived.Test.YtnlcpgeapgnkgaaStateRow
namespace Go.Proofs.Ytnlcpgeapgnkgaa.H
open Go.RowKit Go.Proofs.YtnlcpgeapgnkgaaW.PrintWords Go.Proofs.YtnlcpgeapgnkgaaW.PrintLast Go.Proofs.YtnlcpgeapgnkgaaW.PrintMore
set_option linter.unusedVariables false
set_option linter.unusedSimpArgs false
def fx (v : Int) (x : InV) : InV := { x with version := v, risk := false }
def LLof (v : Int) (L : List InV) (i : Nat) : List InV := (L.take i).map (fx v) ++ L.drop i
theorem LL_len (v : Int) (L : List InV) {i : Nat} (h : i ≤ L.length) : (LLof v L i).length = L.length := by
  simp [LLof]; omega
theorem LL_zero (v : Int) (L : List InV) : LLof v L 0 = L := by simp [LLof]
theorem LL_end (v : Int) (L : List InV) : LLof v L L.length = L.map (fx v) := by simp [LLof]
theorem LL_get (v : Int) (L : List InV) {i : Nat} (h : i < L.length) : (LLof v L i).getD i noInst = L.getD i noInst := by
  have hl : ((L.take i).map (fx v)).length = i := by simp; omega
  unfold LLof
  rw [List.getD_eq_getElem?_getD, List.getElem?_append_right (by omega), hl, Nat.sub_self, List.getElem?_drop, Nat.add_zero, List.getD_eq_getElem?_getD]
theorem LL_set (v : Int) (L : List InV) {i : Nat} (h : i < L.length) (y : InV) : ((LLof v L i).set i y).set i (fx v (L.getD i noInst)) = LLof v L (i + 1) := by
  have hl : ((L.take i).map (fx v)).length = i := by simp; omega
  rw [List.set_set]
  unfold LLof
  rw [List.set_append_right _ _ (by omega), hl, Nat.sub_self, List.drop_eq_getElem_cons h, List.set_cons_zero, List.take_add_one, List.getElem?_eq_getElem h, List.map_append, List.append_assoc]
  simp [List.getD_eq_getElem?_getD, h]
theorem any_succ (P : InV → Bool) (L : List InV) {i : Nat} (h : i < L.length) : (L.take (i + 1)).any P = ((L.take i).any P || P (L.getD i noInst)) := by
  rw [List.take_add_one, List.getElem?_eq_getElem h, List.any_append]
  simp [List.getD_eq_getElem?_getD, h]
theorem map_get (v : Int) (L : List InV) {i : Nat} (h : i < L.length) : (L.map (fx v)).getD i noInst = fx v (L.getD i noInst) := by
  simp [List.getD_eq_getElem?_getD, h]
theorem MayL.fx {L : List InV} (h : MayL L) (v : Int) : MayL (L.map (fx v)) := by
  obtain ⟨h1, h2⟩ := h
  refine ⟨by simpa using h1, fun i hi => ?_⟩
  have hi : i < L.length := by simpa using hi
  rw [map_get v L hi]
  obtain ⟨a, b⟩ := h2 i hi
  refine ⟨a, fun h0 => ?_⟩
  rw [map_get v L (show i - 1 < L.length by omega)]
  exact b h0
def endC (cs : Array Value) (A : Option Addr) (n c : Nat) : Array Value := (((putL cs 48 [.bool true, .int .i64 0, .int .i64 100, .int .i64 0, .bool false, .bool false]).setIfInBounds 40 (.int .u32 2)).setIfInBounds 46 (.slice A n c)).setIfInBounds 47 (.slice none 0 0)
def endS (s : StV) (A : Option Addr) (n c : Nat) : StV := { s with version := 2, ia := A, ilen := n, ic := c, oa := none, olen := 0, oc := 0, on := true, most := 100, stopped := false }
theorem endF {cs : Array Value} {s : StV} (h : StF cs s) (A : Option Addr) (n c : Nat) : StF (endC cs A n c) (endS s A n c) := by
  obtain ⟨h0, h1, h2, h3, h4, h5, h6, h7, h8, h9⟩ := h
  constructor
  · simp [endC, putL, h0]
  all_goals simp only [endC, endS, putL, Array.getElem?_setIfInBounds, Array.size_setIfInBounds, h0, Nat.reduceEqDiff, Nat.reduceAdd, Nat.reduceLT, if_true, if_false, reduceIte]
  all_goals first | rfl | assumption
theorem endMay {s : StV} {L : List InV} (hd : 0 ≤ s.desired ∧ s.desired ≤ 65536) (hs : 0 ≤ s.surge ∧ s.surge ≤ 65536) (hL : MayL L) (v : Int) (A : Option Addr) (n c : Nat) : MaySt (endS s A n c) (L.map (fx v)) :=
  ⟨hd, hs, fun _ => ⟨(by show (100 : Int) ≤ 100; omega), (by show (100 : Int) ≤ 200; omega)⟩, hL.fx v⟩
theorem ends_all (s : StV) (A : Option Addr) (n c : Nat) (L : List InV) : EndsP (endS s A n c) (L.map (fx 2)) := fun i hi _ => by
  rw [map_get 2 L (by simpa using hi)]
  rfl
theorem wgh_none {P : InV → Bool} {L : List InV} (h : ∀ i, i < L.length → P (L.getD i noInst) = false) : wgh P L = (0, 0) := by
  have key : ∀ i, i ≤ L.length → wgh P (L.take i) = (0, 0) := by
    intro i
    induction i with
    | zero => intro _; rfl
    | succ i ih =>
      intro hi
      rw [wgh_succ P L i (by omega), ih (by omega)]
      unfold wstep
      rw [h i (by omega), Bool.and_false]
      rfl
  have := key L.length (Nat.le_refl _)
  rwa [List.take_length] at this
theorem wgh_some {P : InV → Bool} {L : List InV} (hM : MayL L) (h : ∀ i, i < L.length → P (L.getD i noInst) = true) (hs : L.any serves = true) : 1 ≤ (wgh P L).1 ∧ 1 ≤ (wgh P L).2 := by
  have key : ∀ i, i ≤ L.length → (L.take i).any serves = true → 1 ≤ (wgh P (L.take i)).1 ∧ 1 ≤ (wgh P (L.take i)).2 := by
    intro i
    induction i with
    | zero => intro _ h0; simp at h0
    | succ i ih =>
      intro hi ha
      have hw := hM.weights i (by omega)
      have hb := wgh_bound P L hM.weights i (by omega)
      rw [any_succ serves L (by omega)] at ha
      rw [wgh_succ P L i (by omega)]
      unfold wstep
      rw [h i (by omega), Bool.and_true]
      split
      · simp only
        omega
      · rename_i hn
        have hn : serves (L.getD i noInst) = false := by simpa using hn
        rw [hn, Bool.or_false] at ha
        exact ih (by omega) ha
  have := key L.length (Nat.le_refl _) (by rw [List.take_length]; exact hs)
  rwa [List.take_length] at this
theorem of_end_all {s : StV} {L : List InV} (hd : 0 ≤ s.desired ∧ s.desired ≤ 65536) (hs : 0 ≤ s.surge ∧ s.surge ≤ 65536) (hL : MayL L) (A : Option Addr) (n c : Nat) : ofV (endS s A n c) (L.map (fx 2)) = 0 := by
  have hm := (more_bound (endMay hd hs hL 2 A n c)).1
  unfold ofV
  rw [wgh_none (P := risky (endS s A n c)) (L := L.map (fx 2)) (fun i hi => by rw [map_get 2 L (by simpa using hi)]; simp [risky, fx]),
    wgh_none (P := old (endS s A n c)) (L := L.map (fx 2)) (fun i hi => by rw [map_get 2 L (by simpa using hi)]; simp [old, fx, endS])]
  have : 0 ≤ (endS s A n c).surge := hs.1
  simp only
  omega
theorem of_end_pos {s : StV} {L : List InV} (hd : 0 ≤ s.desired ∧ s.desired ≤ 65536) (hs : 0 ≤ s.surge ∧ s.surge ≤ 65536) (hL : MayL L) (A : Option Addr) (n c : Nat) (ha : L.any serves = true) : 0 < ofV (endS s A n c) (L.map (fx 1)) := by
  have hm := (more_bound (endMay hd hs hL 1 A n c)).1
  have h1 := wgh_some (P := old (endS s A n c)) (hL.fx 1) (fun i hi => by rw [map_get 1 L (by simpa using hi)]; simp [old, fx, endS, goes]) (by rw [List.any_map]; exact ha)
  unfold ofV
  omega
theorem ends_none {s : StV} {L : List InV} (A : Option Addr) (n c : Nat) (ha : L.any serves = true) : ¬ EndsP (endS s A n c) (L.map (fx 1)) := fun h => by
  obtain ⟨x, hx, hsx⟩ := List.any_eq_true.1 ha
  obtain ⟨i, hi, rfl⟩ := List.getElem_of_mem hx
  have := h i (by simpa using hi)
  have hg : L.getD i noInst = L[i] := by simp [List.getD_eq_getElem?_getD, hi]
  rw [map_get 1 L hi, hg] at this
  have e := this (by
    have : stays (fx 1 L[i]) = stays L[i] := rfl
    rw [this]
    unfold stays
    rw [hsx]
    rfl)
  have e : (1 : Int) = 2 := e
  omega
theorem wpList_store_any {P : Program} {ops : Array Oper} {rest : List Oper} {op : Oper} {a : Act} {w : World} {Q : Exit → Act → World → Prop} (hgd : op.guard = none) (ty : TypeId) (x y : Operand) (ho : op.op = .store ty x y)
    (g t o : Nat) (cs : Array Value) (u : Value) (seg : List Value) (hb : Boxd w g t cs) (hx : a.eval x = .pointer (some ⟨g, o, none⟩)) (hy : a.eval y = u) (hu : u.cells.toList = seg)
    (hi : (P.info? ty).map (·.size) = some seg.length) (hn : o + seg.length ≤ cs.size) (h1 : ∀ q ∈ seg, q.oneCell' = true)
    (h : ∀ w', Boxd w' g t (putL cs o seg) → Below g w w' → (∀ k, k ≠ g → w'.heap[k]? = w.heap[k]?) → wpList P ops Q rest (a.put op.dst undef) w') : wpList P ops Q (op :: rest) a w :=
  wpList_plain hgd fun _ hK => by
    have hrun := run_store_run (P := P) ty u seg hb hu hi hn h1
    unfold Oper.wp execOp
    simp only [ho, hx, hy, Sem.run_bind, Sem.run_pure, Result.andThen_ok, hrun]
    exact hK _ _ (h _ (Boxd.sets _ _ hb) (below_sets (Nat.le_refl _) _ _ ⟨rfl, rfl, rfl, Nat.le_refl _, fun _ _ => rfl⟩) (fun k hk => setCells_far seg _ k hk))
theorem kInst_M (w : World) (base : Nat) (ok : Nat → Prop) (i : InV) : kInst.M w base ok i i.cells.toList := ⟨_, _, rfl, rfl, _, _, rfl, rfl, _, _, rfl, rfl, _, _, rfl, rfl, _, _, rfl, rfl, _, _, rfl, rfl, _, _, rfl, rfl, _, _, rfl, rfl, _, _, rfl, rfl, _, _, rfl, rfl, _, _, rfl, rfl, rfl⟩
theorem kInst_KM {w w' : World} {base : Nat} {ok : Nat → Prop} (x : InV) (cs : List Value) (h : kInst.K w x cs) : kInst.M w' base ok x cs := by
  rw [kInst_cells h]
  exact kInst_M _ _ _ _
theorem instInfo : (Try.prog.info? 41).map (fun i => (i.zero, i.size, i.bytes)) = some (some (.agg #[.int .u64 0, .int .u64 0, .int .i64 0, .int .i64 0, .bool false, .int .u8 0, .int .u64 0, .bool false, .int .u64 0, .bool false, .bool false, .int .u32 0]), 12, 72) := by kernel_rfl
/-- The cells of one instance of a row of one's own. -/
theorem row_at {e : Nat} {w : World} {base : Nat} {ok : Nat → Prop} {g n c : Nat} {L : List InV} (h : kInst.R e w base ok (.slice (some ⟨g, 0, none⟩) n c) L) {i : Nat} (hi : i < n) {x : InV} (hx : L.getD i noInst = x) : ∀ j v, x.cells.toList[j]? = some v → w.cell? ⟨g, i * 12 + j, none⟩ = some v := by
  obtain ⟨e1, _, hC⟩ := Kd.R_reads' h
  rw [← e1] at hC
  obtain ⟨ad, ea, hc⟩ := inst_at hC i hi
  cases ea
  intro j v hv
  rw [← hx] at hv
  have := hc j v hv
  rw [add_add] at this
  rw [← this]
  congr 1
  unfold Addr.add
  split
  · rename_i h0
    rw [h0]
  · show Addr.mk g (i * 12 + j) none = Addr.mk g (0 + (i * 12 + j)) none
    rw [Nat.zero_add]
theorem fld_at (g k i : Nat) (hk : k ≠ 0) : ({ block := ((⟨g, 0, none⟩ : Addr).add (i * 12)).block, off := ((⟨g, 0, none⟩ : Addr).add (i * 12)).off + k } : Addr) = ⟨g, i * 12 + k, none⟩ := by
  unfold Addr.add
  split
  · rename_i h0
    rw [h0]
  · show Addr.mk g (0 + i * 12 + k) none = _
    rw [Nat.zero_add]
end Go.Proofs.Ytnlcpgeapgnkgaa.H
