/- Maps that a call makes, as lists of pairs: keys of any type whose '==' is that of a Lean type. -/
import Derived.Test.YtgiokbhedblkfaaGBase
import Derived.MapKept
import Derived.ChangeMaps4
import Derived.WideKeyEntry
import Derived.Maps.OwnOps
import Derived.Carry
namespace Go.Proofs.Ytgiokbhedblkfaa.H
open Go.RowKit Go.Proofs.YtgiokbhedblkfaaW.PrintWords Go.Proofs.YtgiokbhedblkfaaW.PrintLast Go.Proofs.YtgiokbhedblkfaaW.PrintMore
set_option linter.unusedVariables false
set_option linter.unusedSimpArgs false
set_option linter.unusedSectionVars false
structure KeyOk (P : Program) (kt : TypeId) {κ : Type} [DecidableEq κ] (enc : κ → Value) : Prop where
  eq : ∀ (w : World) (a b : κ), (Op.equal kt (enc a) (enc b)).run P w = .ok (decide (a = b)) w
  check : ∀ (w : World) (em : Bool) (a : κ), (Instr.checkKey em 10000 kt (enc a)).run P w = .ok () w
  now : ∃ d, P.underlying kt = some d ∧ ((∀ a b, Instr.sameNow d (enc a) (enc b) = none) ∨ (∀ a b, Instr.sameNow d (enc a) (enc b) = some (decide (a = b))))
  stays : ∀ a, Instr.sameBits 10000 (enc a) (enc a) = true
section
variable {P : Program} {kt vt t : TypeId} {κ ν : Type} [DecidableEq κ] {encK : κ → Value} {encV : ν → Value}
def ents (encK : κ → Value) (encV : ν → Value) (es : List MapEntry) (l : List (κ × ν)) : Prop := es.map (fun e => (e.key, e.val)) = l.map (fun p => (encK p.1, encV p.2))
/-- Block B is a map that reads as l. -/
def MapR (encK : κ → Value) (encV : ν → Value) (w : World) (B : Nat) (l : List (κ × ν)) : Prop :=
  ∃ es clock, w.heap[B]? = some (.map es clock) ∧ ents encK encV es.toList l ∧ (∀ e ∈ es.toList, e.born < clock) ∧ (es.toList.map (·.born)).Nodup
def posL (a : κ) : List (κ × ν) → Nat → Option (Nat × ν)
  | [], _ => none
  | p :: l, i => if a = p.1 then some (i, p.2) else posL a l (i + 1)
def lookL (l : List (κ × ν)) (a : κ) : Option ν := (posL a l 0).map (·.2)
def setL (l : List (κ × ν)) (a : κ) (v : ν) : List (κ × ν) := match posL a l 0 with | some (i, _) => l.set i (a, v) | none => l ++ [(a, v)]
theorem posL_some {a : κ} : ∀ {l : List (κ × ν)} {k i : Nat} {v : ν}, posL a l k = some (i, v) → k ≤ i ∧ l[i - k]? = some (a, v)
  | [], k, i, v, h => by cases h
  | p :: l, k, i, v, h => by
    unfold posL at h
    split at h
    · rename_i e
      injection h with h; injection h with h1 h2
      subst h1; subst h2
      refine ⟨Nat.le_refl _, ?_⟩
      rw [Nat.sub_self, List.getElem?_cons_zero, e]
    · obtain ⟨h1, h2⟩ := posL_some h
      refine ⟨by omega, ?_⟩
      rw [show i - k = (i - (k + 1)) + 1 by omega, List.getElem?_cons_succ]
      exact h2
theorem posL_none {a : κ} : ∀ {l : List (κ × ν)} {k : Nat}, posL a l k = none → ∀ p ∈ l, p.1 ≠ a
  | [], k, h, p, hp => by cases hp
  | q :: l, k, h, p, hp => by
    unfold posL at h
    split at h
    · cases h
    · rename_i e
      rcases List.mem_cons.1 hp with rfl | hp
      · exact fun e2 => e e2.symm
      · exact posL_none h p hp
theorem posL_shift (a : κ) : ∀ (l : List (κ × ν)) (k : Nat), posL a l k = (posL a l 0).map (fun q => (q.1 + k, q.2))
  | [], k => rfl
  | p :: l, k => by
    unfold posL
    split
    · simp
    · rw [posL_shift a l (k + 1), posL_shift a l (0 + 1)]
      cases posL a l 0 with
      | none => rfl
      | some q => simp [Nat.add_assoc, Nat.add_comm 1 k]
theorem lookL_nil (a : κ) : lookL ([] : List (κ × ν)) a = none := rfl
theorem lookL_cons (p : κ × ν) (l : List (κ × ν)) (a : κ) : lookL (p :: l) a = if a = p.1 then some p.2 else lookL l a := by
  unfold lookL
  rw [posL]
  split
  · rfl
  · rw [posL_shift]
    cases posL a l 0 <;> rfl
theorem lookL_append (l : List (κ × ν)) (a b : κ) (v : ν) (h : ∀ p ∈ l, p.1 ≠ a) : lookL (l ++ [(a, v)]) b = if b = a then some v else lookL l b := by
  induction l with
  | nil => simp [lookL_cons, lookL_nil]
  | cons p l ih =>
    rw [List.cons_append, lookL_cons, lookL_cons, ih (fun q hq => h q (List.mem_cons_of_mem _ hq))]
    have := h p (List.mem_cons_self ..)
    by_cases e : b = p.1
    · rw [if_pos e, if_pos e, if_neg (fun e2 => this (e ▸ e2))]
    · rw [if_neg e, if_neg e]
theorem lookL_set (l : List (κ × ν)) (a b : κ) (v : ν) {i : Nat} {u : ν} (h : posL a l 0 = some (i, u)) : lookL (l.set i (a, v)) b = if b = a then some v else lookL l b := by
  induction l generalizing i with
  | nil => cases h
  | cons p l ih =>
    unfold posL at h
    split at h
    · rename_i e
      injection h with h; injection h with h1 h2
      subst h1
      rw [List.set_cons_zero, lookL_cons, lookL_cons]
      by_cases e2 : b = a
      · simp [e2]
      · rw [if_neg e2, if_neg e2, if_neg (fun e3 => e2 (e3.trans e.symm))]
    · rename_i e
      rw [posL_shift] at h
      obtain ⟨q, hq, hqe⟩ := Option.map_eq_some_iff.1 h
      injection hqe with h1 h2
      subst h1
      rw [List.set_cons_succ, lookL_cons, lookL_cons, ih (i := q.1) (by rw [hq, ← h2])]
      by_cases e2 : b = p.1
      · rw [if_pos e2, if_pos e2, if_neg (fun e3 => e (e3.symm.trans e2))]
      · rw [if_neg e2, if_neg e2]
theorem lookL_setL (l : List (κ × ν)) (a b : κ) (v : ν) : lookL (setL l a v) b = if b = a then some v else lookL l b := by
  unfold setL
  cases h : posL a l 0 with
  | none => exact lookL_append l a b v (posL_none h)
  | some q => exact lookL_set l a b v h
theorem findAsking_run (K : KeyOk P kt encK) (w : World) (a : κ) : ∀ (es : List MapEntry) (l : List (κ × ν)) (i : Nat), ents encK encV es l → (Instr.findAsking kt (encK a) es i).run P w = .ok ((posL a l i).map (fun q => (q.1, encV q.2))) w
  | [], l, i, h => by
    have : l = [] := by unfold ents at h; simpa using h.symm
    subst this
    rfl
  | e :: es, [], i, h => by unfold ents at h; simp at h
  | e :: es, p :: l, i, h => by
    unfold ents at h
    simp only [List.map_cons, List.cons.injEq, Prod.mk.injEq] at h
    obtain ⟨⟨h1, h2⟩, h3⟩ := h
    unfold Instr.findAsking
    rw [Sem.run_bind, h1, K.eq w a p.1]
    simp only [Result.andThen]
    unfold posL
    by_cases e2 : a = p.1
    · simp [e2, h2]
    · simp only [e2, decide_false, Bool.false_eq_true, if_false]
      exact findAsking_run K w a es l (i + 1) h3
theorem findNow_some {d : TypeDesc} (hd : ∀ a b : κ, Instr.sameNow d (encK a) (encK b) = some (decide (a = b))) (a : κ) : ∀ (es : List MapEntry) (l : List (κ × ν)) (i : Nat), ents encK encV es l → Instr.findNow d (encK a) es i = some ((posL a l i).map (fun q => (q.1, encV q.2)))
  | [], l, i, h => by
    have : l = [] := by unfold ents at h; simpa using h.symm
    subst this
    rfl
  | e :: es, [], i, h => by unfold ents at h; simp at h
  | e :: es, p :: l, i, h => by
    unfold ents at h
    simp only [List.map_cons, List.cons.injEq, Prod.mk.injEq] at h
    obtain ⟨⟨h1, h2⟩, h3⟩ := h
    unfold Instr.findNow
    rw [h1, hd a p.1]
    unfold posL
    by_cases e2 : a = p.1
    · simp [e2, h2]
    · simp only [e2, decide_false, if_false]
      exact findNow_some hd a es l (i + 1) h3
theorem findKey_run (K : KeyOk P kt encK) (w : World) (a : κ) (es : List MapEntry) (l : List (κ × ν)) (h : ents encK encV es l) : (Instr.findKey kt (encK a) es).run P w = .ok ((posL a l 0).map (fun q => (q.1, encV q.2))) w := by
  obtain ⟨d, hu, hd | hd⟩ := K.now
  · unfold Instr.findKey
    rw [Sem.run_bind, run_underlying hu w]
    simp only [Result.andThen]
    cases es with
    | nil =>
      have : l = [] := by unfold ents at h; simpa using h.symm
      subst this
      rfl
    | cons e es =>
      cases l with
      | nil => unfold ents at h; simp at h
      | cons p l =>
        have h' := h
        unfold ents at h
        simp only [List.map_cons, List.cons.injEq, Prod.mk.injEq] at h
        unfold Instr.findNow
        rw [h.1.1, hd a p.1]
        exact findAsking_run K w a (e :: es) (p :: l) 0 h'
  · unfold Instr.findKey
    rw [Sem.run_bind, run_underlying hu w]
    simp only [Result.andThen]
    rw [findNow_some hd a es l 0 h]
    rfl
theorem ents_len {es : List MapEntry} {l : List (κ × ν)} (h : ents encK encV es l) : es.length = l.length := by
  have := congrArg List.length h
  simpa using this
theorem ents_get {es : List MapEntry} {l : List (κ × ν)} (h : ents encK encV es l) {i : Nat} {p : κ × ν} (hp : l[i]? = some p) : ∃ e, es[i]? = some e ∧ e.key = encK p.1 ∧ e.val = encV p.2 := by
  have h1 := congrArg (fun q => q[i]?) h
  simp only [List.getElem?_map, hp, Option.map_some] at h1
  cases he : es[i]? with
  | none => rw [he] at h1; cases h1
  | some e =>
    rw [he] at h1
    simp only [Option.map_some, Option.some.injEq, Prod.mk.injEq] at h1
    exact ⟨e, rfl, h1.1, h1.2⟩
theorem MapR.lookup (K : KeyOk P kt encK) (ht : P.underlying t = some (.map kt vt)) {z : Value} (hz : ∀ w, (zeroValue vt).run P w = .ok z w) {w : World} {B : Nat} {l : List (κ × ν)} (h : MapR encK encV w B l) (a : κ) (ok : Bool) :
    (Instr.lookup t (.map (some B)) (encK a) ok).run P w = .ok (if ok then .tuple #[((lookL l a).map encV).getD z, .bool (lookL l a).isSome] else ((lookL l a).map encV).getD z) w := by
  obtain ⟨es, clock, hb, he, _, _⟩ := h
  have hf := findKey_run K w a es.toList l he
  unfold Instr.lookup
  rw [Sem.run_bind, run_underlying ht w]
  simp only [Result.andThen, Sem.run_bind, Go.MapKept.run_getObj_map hb, Sem.run_pure, K.check w _ a, hf]
  unfold lookL
  cases hp : posL a l 0 with
  | none => simp [Sem.run_bind, hz w, Result.andThen]
  | some q => simp
theorem grownBy_setBlock (w : World) (B : Nat) (o : Obj) : w.grownBy (ChangeMaps.setBlock w B o) (some B) := by
  refine ⟨rfl, rfl, rfl, by simp [ChangeMaps.setBlock], fun k hk hne => ?_⟩
  have : B ≠ k := fun e => hne (by rw [e])
  simp [ChangeMaps.setBlock, Array.getElem?_setIfInBounds, this]
theorem set_new (w : World) (B : Nat) (o o' : Obj) (hb : w.heap[B]? = some o') : (ChangeMaps.setBlock w B o).heap[B]? = some o := by
  have hlt : B < w.heap.size := by
    rcases Nat.lt_or_ge B w.heap.size with q | q
    · exact q
    · rw [Array.getElem?_eq_none q] at hb; cases hb
  simp [ChangeMaps.setBlock, hlt]
theorem stays_run (K : KeyOk P kt encK) (w : World) (a : κ) : (Instr.keyThatStays (encK a) (encK a)).run P w = .ok (encK a) w := by
  unfold Instr.keyThatStays
  rw [K.stays a]
  rfl
theorem ents_set {es : List MapEntry} {l : List (κ × ν)} (h : ents encK encV es l) {i : Nat} {a : κ} {u v : ν} (hp : l[i]? = some (a, u)) (f : MapEntry → MapEntry) (hf : ∀ e, es[i]? = some e → ((f e).key, (f e).val) = (encK a, encV v)) : ents encK encV (es.modify i f) (l.set i (a, v)) := by
  unfold ents at *
  apply List.ext_getElem?
  intro j
  rw [List.getElem?_map, List.getElem?_map, List.getElem?_modify, List.getElem?_set]
  have hj := congrArg (fun q => q[j]?) h
  simp only [List.getElem?_map] at hj
  by_cases e : i = j
  · subst e
    obtain ⟨e0, he0, _, _⟩ := ents_get h hp
    have hlt : i < l.length := (List.getElem?_eq_some_iff.1 hp).1
    simp [he0, hlt, hf e0 he0]
  · simp only [e, if_false, id_eq]
    rw [← hj]
    cases es[j]? <;> rfl
/-- The store m[a] = v. -/
theorem MapR.update (K : KeyOk P kt encK) (ht : P.underlying t = some (.map kt vt)) {w : World} {B : Nat} {l : List (κ × ν)} (h : MapR encK encV w B l) (a : κ) (v : ν) :
    ∃ w', (Instr.mapUpdate t (.map (some B)) (encK a) (encV v)).run P w = .ok () w' ∧ MapR encK encV w' B (setL l a v) ∧ w.grownBy w' (some B) := by
  obtain ⟨es, clock, hb, he, s1, s2⟩ := h
  have hf := findKey_run K w a es.toList l he
  unfold setL
  cases hp : posL a l 0 with
  | none =>
    rw [hp] at hf
    refine ⟨ChangeMaps.setBlock w B (.map (es.push { key := encK a, val := encV v, born := clock }) (clock + 1)), ?_, ⟨_, _, set_new w B _ _ hb, ?_, ?_, ?_⟩, grownBy_setBlock w B _⟩
    · simp [Instr.mapUpdate, run_underlying ht, Go.MapKept.run_getObj_map hb, K.check w false a, hf, Go.MapKept.run_setObj_map _ hb, Result.andThen, ChangeMaps.setBlock]
    · unfold ents at *
      simp [he]
    · intro e he'
      rw [Array.toList_push, List.mem_append, List.mem_singleton] at he'
      rcases he' with h1 | rfl
      · have := s1 e h1; omega
      · show clock < clock + 1; omega
    · rw [Array.toList_push, List.map_append]
      refine List.nodup_append.2 ⟨s2, by simp, fun x hx c hc e1 => ?_⟩
      simp only [List.map_cons, List.map_nil, List.mem_singleton] at hc
      obtain ⟨y, hy, rfl⟩ := List.mem_map.1 hx
      have := s1 y hy
      omega
  | some q =>
    obtain ⟨i, u⟩ := q
    rw [hp] at hf
    obtain ⟨_, hl⟩ := posL_some hp
    rw [Nat.sub_zero] at hl
    obtain ⟨e0, he0, hk0, hv0⟩ := ents_get he hl
    have hj : es[i]? = some e0 := by simpa using he0
    refine ⟨ChangeMaps.setBlock w B (.map (es.modify i fun e => { e with key := encK a, val := encV v }) clock), ?_, ⟨_, _, set_new w B _ _ hb, ?_, ?_, ?_⟩, grownBy_setBlock w B _⟩
    · simp [Instr.mapUpdate, run_underlying ht, Go.MapKept.run_getObj_map hb, K.check w false a, hf, hj, hk0, stays_run K w a, Go.MapKept.run_setObj_map _ hb, Result.andThen, ChangeMaps.setBlock]
    · rw [Array.toList_modify]
      exact ents_set he hl _ (fun e _ => rfl)
    · intro e hm
      rw [Array.toList_modify] at hm
      obtain ⟨j, hj2⟩ := List.mem_iff_getElem?.1 hm
      rw [List.getElem?_modify] at hj2
      cases hej : es.toList[j]? with
      | none => rw [hej] at hj2; simp at hj2
      | some e1 =>
        rw [hej] at hj2
        have hm1 := s1 e1 (List.mem_of_getElem? hej)
        simp only [Option.map_eq_map, Option.map_some, Option.some.injEq] at hj2
        subst hj2
        split <;> exact hm1
    · rw [Array.toList_modify]
      have : (es.toList.modify i fun e => { e with key := encK a, val := encV v }).map (·.born) = es.toList.map (·.born) := by
        apply List.ext_getElem?
        intro j
        rw [List.getElem?_map, List.getElem?_map, List.getElem?_modify]
        cases es.toList[j]? with
        | none => rfl
        | some e1 => by_cases e : i = j <;> simp [e]
      rw [this]
      exact s2
/-- m[a] is looked for (and made); its stamp. -/
theorem MapR.entry (K : KeyOk P kt encK) (ht : P.underlying t = some (.map kt vt)) {z : ν} (hz : ∀ w, (zeroValue vt).run P w = .ok (encV z) w) {w : World} {B : Nat} {l : List (κ × ν)} (h : MapR encK encV w B l) (a : κ) :
    ∃ (v : ν) (st : Nat) (w' : World), (Instr.mapEntry t (.map (some B)) (encK a)).run P w = .ok (.tuple #[encV v, goInt st]) w' ∧ v = (lookL l a).getD z ∧ MapR encK encV w' B (setL l a v) ∧ w.grownBy w' (some B) ∧
      ∀ w2 x, w2.heap[B]? = w'.heap[B]? → ∃ w3, (Instr.entryStore t (.map (some B)) (goInt st) (encV x)).run P w2 = .ok () w3 ∧ MapR encK encV w3 B (setL l a x) ∧ w2.grownBy w3 (some B) := by
  obtain ⟨es, clock, hb, he, s1, s2⟩ := h
  have hf := findKey_run K w a es.toList l he
  cases hp : posL a l 0 with
  | none =>
    rw [hp] at hf
    have hsn : ∀ v, setL l a v = l ++ [(a, v)] := fun v => by unfold setL; rw [hp]
    have hnd : ∀ v : Value, ((es.push { key := encK a, val := v, born := clock }).toList.map (·.born)).Nodup := by
      intro v
      rw [Array.toList_push, List.map_append]
      refine List.nodup_append.2 ⟨s2, by simp, fun x hx c hc e1 => ?_⟩
      simp only [List.map_cons, List.map_nil, List.mem_singleton] at hc
      obtain ⟨y, hy, rfl⟩ := List.mem_map.1 hx
      have := s1 y hy
      omega
    have hbd : ∀ v : Value, ∀ e ∈ (es.push { key := encK a, val := v, born := clock }).toList, e.born < clock + 1 := by
      intro v e he'
      rw [Array.toList_push, List.mem_append, List.mem_singleton] at he'
      rcases he' with h1 | rfl
      · have := s1 e h1; omega
      · show clock < clock + 1; omega
    have hen : ∀ v : ν, ents encK encV (es.push { key := encK a, val := encV v, born := clock }).toList (l ++ [(a, v)]) := by
      intro v
      unfold ents at *
      simp [he]
    refine ⟨z, clock, ChangeMaps.setBlock w B (.map (es.push { key := encK a, val := encV z, born := clock }) (clock + 1)), ?_, ?_, ?_, grownBy_setBlock w B _, fun w2 x hw2 => ?_⟩
    · simp [Instr.mapEntry, run_underlying ht, Go.MapKept.run_getObj_map hb, K.check w false a, hf, hz w, Go.MapKept.run_setObj_map _ hb, Result.andThen, ChangeMaps.setBlock]
    · unfold lookL; rw [hp]; rfl
    · rw [hsn]
      exact ⟨_, _, set_new w B _ _ hb, hen z, hbd _, hnd _⟩
    · rw [set_new w B _ _ hb] at hw2
      have hidx : (es.push ({ key := encK a, val := encV z, born := clock } : MapEntry)).findIdx? (fun e => ((e.born : Nat) : Int) == ((clock : Nat) : Int)) = some es.size := by
        rw [WideElems.findIdx_arr]
        exact WideElems.findIdx_born (l := (es.push ({ key := encK a, val := encV z, born := clock } : MapEntry)).toList) (j := es.size) (e0 := { key := encK a, val := encV z, born := clock }) (hnd _) (by simp)
      have hmod : (es.push ({ key := encK a, val := encV z, born := clock } : MapEntry)).modify es.size (fun e => { e with val := encV x }) = es.push { key := encK a, val := encV x, born := clock } := by
        apply Array.ext'
        rw [Array.toList_modify, Array.toList_push, Array.toList_push, ← Array.length_toList, WideElems.modify_last]
      refine ⟨ChangeMaps.setBlock w2 B (.map (es.push { key := encK a, val := encV x, born := clock }) (clock + 1)), ?_, ?_, grownBy_setBlock w2 B _⟩
      · simp [Instr.entryStore, Go.MapKept.run_getObj_map hw2, asInt, asIntOf, goInt, hidx, hmod, Go.MapKept.run_setObj_map _ hw2, Result.andThen, ChangeMaps.setBlock]
      · rw [hsn]
        exact ⟨_, _, set_new w2 B _ _ hw2, hen x, hbd _, hnd _⟩
  | some q =>
    obtain ⟨i, u⟩ := q
    rw [hp] at hf
    obtain ⟨_, hl⟩ := posL_some hp
    rw [Nat.sub_zero] at hl
    obtain ⟨e0, he0, hk0, hv0⟩ := ents_get he hl
    have hj : es[i]? = some e0 := by simpa using he0
    have hsn : ∀ v, setL l a v = l.set i (a, v) := fun v => by unfold setL; rw [hp]
    have hsame : es.modify i (fun e => { e with key := encK a }) = es := by
      apply Array.ext'
      rw [Array.toList_modify]
      apply List.ext_getElem?
      intro j
      rw [List.getElem?_modify]
      by_cases e : i = j
      · subst e
        rw [he0]
        have hk1 : e0.key = encK a := hk0
        rw [← hk1]
        simp
      · cases es.toList[j]? <;> simp [e]
    have hbn : ∀ f : MapEntry → MapEntry, (∀ e, (f e).born = e.born) → ((es.modify i f).toList.map (·.born)) = es.toList.map (·.born) := by
      intro f hf'
      rw [Array.toList_modify]
      apply List.ext_getElem?
      intro j
      rw [List.getElem?_map, List.getElem?_map, List.getElem?_modify]
      cases es.toList[j]? with
      | none => rfl
      | some e1 => by_cases e : i = j <;> simp [e, hf']
    refine ⟨u, e0.born, ChangeMaps.setBlock w B (.map es clock), ?_, ?_, ?_, grownBy_setBlock w B _, fun w2 x hw2 => ?_⟩
    · simp [Instr.mapEntry, run_underlying ht, Go.MapKept.run_getObj_map hb, K.check w false a, hf, hj, hk0, stays_run K w a, hsame, Go.MapKept.run_setObj_map _ hb, Result.andThen, ChangeMaps.setBlock]
    · unfold lookL; rw [hp]; rfl
    · rw [hsn]
      refine ⟨_, _, set_new w B _ _ hb, ?_, s1, s2⟩
      have : l.set i (a, u) = l := by
        apply List.ext_getElem?
        intro j
        rw [List.getElem?_set]
        have hlt : i < l.length := (List.getElem?_eq_some_iff.1 hl).1
        by_cases e : i = j
        · subst e; rw [if_pos rfl, if_pos hlt, hl]
        · rw [if_neg e]
      rw [this]
      exact he
    · rw [set_new w B _ _ hb] at hw2
      have hidx : es.findIdx? (fun e => ((e.born : Nat) : Int) == ((e0.born : Nat) : Int)) = some i := by
        rw [WideElems.findIdx_arr]
        exact WideElems.findIdx_born s2 he0
      refine ⟨ChangeMaps.setBlock w2 B (.map (es.modify i (fun e => { e with val := encV x })) clock), ?_, ?_, grownBy_setBlock w2 B _⟩
      · simp [Instr.entryStore, Go.MapKept.run_getObj_map hw2, asInt, asIntOf, goInt, hidx, Go.MapKept.run_setObj_map _ hw2, Result.andThen, ChangeMaps.setBlock]
      · rw [hsn]
        refine ⟨_, _, set_new w2 B _ _ hw2, ?_, ?_, ?_⟩
        · rw [Array.toList_modify]
          refine ents_set he hl _ (fun e hee => ?_)
          rw [he0] at hee
          injection hee with hee
          subst hee
          show (e0.key, encV x) = _
          rw [hk0]
        · intro e hm
          have h1 := List.mem_map_of_mem (f := (·.born)) hm
          rw [hbn (fun e => { e with val := encV x }) (fun _ => rfl)] at h1
          obtain ⟨y, hy, hye⟩ := List.mem_map.1 h1
          have := s1 y hy
          omega
        · rw [hbn (fun e => { e with val := encV x }) (fun _ => rfl)]
          exact s2
theorem MapR.made (w : World) : MapR encK encV (w.alloc (.map #[] 0)) w.heap.size ([] : List (κ × ν)) :=
  ⟨#[], 0, heap_alloc_new _ _, rfl, fun e he => by simp at he, List.nodup_nil⟩
theorem MapR.move {w w' : World} {B : Nat} {l : List (κ × ν)} (h : MapR encK encV w B l) (hw : w'.heap[B]? = w.heap[B]?) : MapR encK encV w' B l := by
  obtain ⟨es, clock, hb, r⟩ := h
  exact ⟨es, clock, hw.trans hb, r⟩
theorem MapR.lt {w : World} {B : Nat} {l : List (κ × ν)} (h : MapR encK encV w B l) : B < w.heap.size := by
  obtain ⟨es, clock, hb, r⟩ := h
  rcases Nat.lt_or_ge B w.heap.size with q | q
  · exact q
  · rw [Array.getElem?_eq_none q] at hb; cases hb
theorem MapR.later {w w' : World} {B : Nat} {l : List (κ × ν)} (h : MapR encK encV w B l) (hb : Below w.heap.size w w') : MapR encK encV w' B l := h.move (hb.block B h.lt)
end

/-- Looked up, the elements whole numbers. -/
theorem MapR.lookI {P : Program} {kt vt t : TypeId} {κ : Type} [DecidableEq κ] {encK : κ → Value} {q : IntKind} (K : KeyOk P kt encK) (ht : P.underlying t = some (.map kt vt)) (hz : ∀ w, (zeroValue vt).run P w = .ok (.int q 0) w) {w : World} {B : Nat} {l : List (κ × Int)} (h : MapR encK (Value.int q) w B l) (a : κ) :
    (Instr.lookup t (.map (some B)) (encK a) false).run P w = .ok (.int q ((lookL l a).getD 0)) w := by
  rw [h.lookup K ht hz a false]
  cases lookL l a <;> rfl
/-- A map is asked for (the operation's own law). -/
theorem wpList_lookI {P : Program} {ops : Array Oper} {rest : List Oper} {o : Oper} {a : Act} {w : World} {Q : Exit → Act → World → Prop} (hw : Region.wanted o (yielded ops a.tmps) = true) (m x : Operand) (t kt vt : TypeId) (hop : o.op = .lookup t m x false)
    {κ : Type} [DecidableEq κ] {encK : κ → Value} {q : IntKind} (K : KeyOk P kt encK) (ht : P.underlying t = some (.map kt vt)) (hz : ∀ w, (zeroValue vt).run P w = .ok (.int q 0) w) {B : Nat} {l : List (κ × Int)} (h : MapR encK (Value.int q) w B l) (k : κ) (hm : a.eval m = .map (some B)) (hx : a.eval x = encK k) (c : Int) (hc : (lookL l k).getD 0 = c)
    (hh : wpList P ops Q rest (a.put o.dst (.int q c)) w) : wpList P ops Q (o :: rest) a w :=
  wpList_step fun K' hK => by
    rw [if_pos hw]
    unfold Oper.wp execOp
    simp only [hop, hm, hx]
    have h1 := h.lookI K ht hz k
    rw [hc] at h1
    simp only [Sem.run_bind, h1, Result.andThen, Sem.run_pure]
    exact hK _ _ hh

theorem below_of_drew {w w3 : World} (h : Below w.drew.heap.size w.drew w3) : Below w.heap.size w w3 := below_step (w := w) (W := w.drew) (below_drew (Below.refl _ _)) h
end Go.Proofs.Ytgiokbhedblkfaa.H
