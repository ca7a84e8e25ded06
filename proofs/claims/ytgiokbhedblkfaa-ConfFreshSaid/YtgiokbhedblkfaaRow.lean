/- From how a row reads its arguments to the kinds of the words: what is read as data is read as whole numbers, texts, lists and records. -/
import Derived.Test.YtgiokbhedblkfaaBase
import Derived.ProofKit
import Derived.OpenShut
import Derived.ShutString
import Derived.ChangeOld
import Derived.SizedLaws
import Derived.Deep.Slices
namespace Go.Proofs.Ytgiokbhedblkfaa.H
open Go.RowKit Go.Proofs.YtgiokbhedblkfaaW.PrintWords Go.Proofs.YtgiokbhedblkfaaW.PrintLast Go.Proofs.YtgiokbhedblkfaaW.PrintMore
open Go.ChangeShapes Go.WideShapes Go.ChangeAt
set_option linter.unusedVariables false
set_option linter.unusedSimpArgs false

/-- Whatever reads as data of type t is of the kind k, and within the bounds wf. -/
structure Opens (P : Program) (t : TypeId) {α : Type} (k : Kd α) (wf : α → Prop) : Prop where
  size : P.cellsOf t = k.sz
  read : ∀ {H : Type} {enc : TypeId × Value → H} {w : World} {base : Nat} {sp : Nat → Bool} {held : Bool} {fuel : Nat} {cs : List Value} {x : DataW H × List MemPlace},
    DataW.trod enc P w base sp held fuel t cs = some x → (∀ n ∈ x.1.weights P t, n ≤ reachBytes) → ∃ a : α, k.K w a cs ∧ wf a

section
variable {P : Program} {t : TypeId}
theorem Opens.int {q : IntKind} (ht : P.underlying t = some (.int q)) (hc : P.cellsOf t = 1) : Opens P t (Kd.int q) (fun n => (Lit.int q n).wf = true) where
  size := hc
  read := fun h _ => by
    obtain ⟨n, rfl, _, hw⟩ := DataW.trod_int ht h
    exact ⟨n, rfl, hw⟩
theorem Opens.bool (ht : P.underlying t = some .bool) (hc : P.cellsOf t = 1) : Opens P t Kd.bool (fun _ => True) where
  size := hc
  read := fun h _ => by
    obtain ⟨n, rfl, _⟩ := DataW.trod_bool ht h
    exact ⟨n, rfl, trivial⟩
theorem Opens.string (ht : P.underlying t = some .string) (hc : P.cellsOf t = 1) : Opens P t Kd.string (fun s => s.size ≤ 140737488351232) where
  size := hc
  read := fun h hw => by
    obtain ⟨s, rfl, rfl, _⟩ := DataW.trod_string ht h
    refine ⟨s, rfl, ?_⟩
    have := hw s.data.toList.length (by simp [DataW.weights])
    rw [Array.length_toList] at this
    exact this
theorem Opens.iso {α β : Type} {k : Kd α} {wf : α → Prop} (h : Opens P t k wf) (f : β → α) (g : α → β) (hfg : ∀ a, f (g a) = a) : Opens P t (Kd.iso k f) (fun b => wf (f b)) where
  size := h.size
  read := fun hr hw => by
    obtain ⟨a, hk, ha⟩ := h.read hr hw
    exact ⟨g a, by show k.K _ (f (g a)) _; rw [hfg]; exact hk, by rw [hfg]; exact ha⟩

theorem weightsAll_mem {H : Type} {e : TypeId} : ∀ {l : List (DataW H)} {d : DataW H}, d ∈ l → ∀ n ∈ d.weights P e, n ∈ DataW.weightsAll P e l
  | x :: l, d, hd, n, hn => by
    simp only [DataW.weightsAll, List.mem_append]
    rcases List.mem_cons.1 hd with rfl | hd
    · exact .inl hn
    · exact .inr (weightsAll_mem hd n hn)
theorem Opens.slice {α : Type} {k : Kd α} {wf : α → Prop} {e : TypeId} {bytes : Nat} (ht : P.underlying t = some (.slice e)) (hc : P.cellsOf t = 1) (h : Opens P e k wf) (hb : P.bytesOf e = bytes) [Inhabited α] :
    Opens P t (Kd.slice e k) (fun l => l.length ≤ 9223372036854775807 ∧ l.length * bytes ≤ 140737488351232 ∧ ∀ x ∈ l, wf x) where
  size := hc
  read := fun {H enc w base sp held fuel cs x} hr hw => by
    rcases Go.Deep.open_slice ht hr with ⟨rfl, _⟩ | ⟨a, len, cap, m, n, D, Pl, rfl, _, hl, hm, hmm, rfl, hx⟩
    · exact ⟨[], ⟨none, 0, rfl, Nat.le_refl _, rfl, by simp, fun h => absurd h (Nat.lt_irrefl 0)⟩, by simp⟩
    · have hle : len ≤ m := by rw [hmm]; split <;> omega
      have hel : ∀ i, i < len → ∃ y : α, (∃ cs', w.cells? base (a.add (i * P.cellsOf e)) (P.cellsOf e) = some cs' ∧ k.K w y cs') ∧ wf y := by
        intro i hi
        obtain ⟨cs', h1, h2⟩ := hx i (by omega)
        obtain ⟨y, hy, hwf⟩ := h.read h2 (fun q hq => hw q (by
          simp only [DataW.weights, ht, List.mem_cons, List.mem_append]
          exact .inr (.inl (weightsAll_mem (List.mem_map.2 ⟨i, List.mem_range.2 hi, rfl⟩) q hq))))
        exact ⟨y, ⟨cs', h1, hy⟩, hwf⟩
      obtain ⟨f, hf⟩ := Go.Deep.choose_lt hel
      have hsz := hw ((len + (m - len)) * P.bytesOf e) (by simp [DataW.weights, ht])
      rw [hb] at hsz
      have hlen : ((List.range len).map f).length = len := by simp
      have hmax : len ≤ 9223372036854775807 := by unfold maxLen at hm; omega
      refine ⟨(List.range len).map f, ⟨some a, cap, by rw [hlen], by rw [hlen]; exact hl, by rw [hlen], by rw [hlen]; exact hmax, fun h0 => ⟨a, rfl, fun j p hp => ?_⟩⟩, by rw [hlen]; exact hmax, ?_, ?_⟩
      · have hj : j < len := by
          have := (List.getElem?_eq_some_iff.1 hp).1
          rwa [hlen] at this
        obtain ⟨⟨cs', h1, h2⟩, _⟩ := hf j hj
        have hp' : p = f j := by simpa [hj] using hp.symm
        subst hp'
        obtain ⟨_, hcl, hcell⟩ := World.cells?_some h1
        have hks := k.K_len h2
        refine ⟨cs', hks, h2, fun i u hu => ?_⟩
        have hi : i < cs'.length := (List.getElem?_eq_some_iff.1 hu).1
        have := hcell i (by omega)
        rw [Go.Deep.add_add, h.size] at this
        rw [this, hu]
      · rw [hlen]
        have : len * bytes ≤ (len + (m - len)) * bytes := Nat.mul_le_mul_right _ (by omega)
        exact Nat.le_trans this hsz
      · intro x hx
        obtain ⟨i, hi, rfl⟩ := List.mem_map.1 hx
        exact (hf i (List.mem_range.1 hi)).2

/-- A record's fields, one behind the other. -/
def FieldsRead {H : Type} (enc : TypeId × Value → H) (P : Program) (w : World) (base : Nat) (sp : Nat → Bool) (held : Bool) (n : Nat) : List TypeId → List Value → List (DataW H × List MemPlace) → Prop
  | [], cs, xs => cs = [] ∧ xs = []
  | t :: ts, cs, xs => ∃ c0 c1 x0 xs', cs = c0 ++ c1 ∧ xs = x0 :: xs' ∧ DataW.trod enc P w base sp held n t c0 = some x0 ∧ FieldsRead enc P w base sp held n ts c1 xs'
def OpensFs (P : Program) (ts : List TypeId) {α : Type} (k : Kd α) (wf : α → Prop) : Prop :=
  ∀ {H : Type} {enc : TypeId × Value → H} {w : World} {base : Nat} {sp : Nat → Bool} {held : Bool} {n : Nat} {cs : List Value} {xs : List (DataW H × List MemPlace)},
    FieldsRead enc P w base sp held n ts cs xs → (∀ m ∈ DataW.weightsEach P ts (xs.map (·.1)), m ≤ reachBytes) → ∃ a : α, k.K w a cs ∧ wf a
theorem OpensFs.one {α : Type} {k : Kd α} {wf : α → Prop} (h : Opens P t k wf) : OpensFs P [t] k wf := by
  intro H enc w base sp held n cs xs hf hw
  obtain ⟨c0, c1, x0, xs', rfl, rfl, h0, rfl, rfl⟩ := hf
  rw [List.append_nil]
  exact h.read h0 (fun m hm => hw m (by simp [DataW.weightsEach, hm]))
theorem OpensFs.cons {α β : Type} {k : Kd α} {wf : α → Prop} {k' : Kd β} {wf' : β → Prop} {ts : List TypeId} (h : Opens P t k wf) (h' : OpensFs P ts k' wf') : OpensFs P (t :: ts) (Kd.pair k k') (fun a => wf a.1 ∧ wf' a.2) := by
  intro H enc w base sp held n cs xs hf hw
  obtain ⟨c0, c1, x0, xs', rfl, rfl, h0, h1⟩ := hf
  obtain ⟨a, ha, wa⟩ := h.read h0 (fun m hm => hw m (by simp [DataW.weightsEach, hm]))
  obtain ⟨b, hb, wb⟩ := h' h1 (fun m hm => hw m (by simp only [List.map_cons, DataW.weightsEach, List.mem_append]; exact .inr hm))
  exact ⟨(a, b), ⟨c0, c1, rfl, ha, hb⟩, wa, wb⟩
def offOk (P : Program) : List Field → Nat → Bool
  | [], _ => true
  | f :: fs, o => f.offset == o && offOk P fs (o + P.cellsOf f.type)
def offEnd (P : Program) : List Field → Nat → Nat
  | [], o => o
  | f :: fs, o => offEnd P fs (o + P.cellsOf f.type)
theorem Opens.struct {α : Type} {k : Kd α} {wf : α → Prop} {fs : Array Field} {ts : List TypeId} (ht : P.underlying t = some (.struct fs)) (hts : fs.toList.map (·.type) = ts) (h : OpensFs P ts k wf) (ho : offOk P fs.toList 0 = true) (hend : offEnd P fs.toList 0 = P.cellsOf t) (hc : P.cellsOf t = k.sz) : Opens P t k wf where
  size := hc
  read := fun {H enc w base sp held fuel cs x} hr hw => by
    obtain ⟨xs, n, _, rfl, hl, hlen, hf⟩ := DataW.trod_struct ht hr
    have key : ∀ (l : List Field) (o : Nat) (cs' : List Value) (i : Nat), (∀ j, l[j]? = fs[i + j]?) → l.length + i = fs.size → offOk P l o = true → offEnd P l o = cs.length → cs' = cs.drop o →
        FieldsRead enc P w base sp held n (l.map (·.type)) cs' (xs.drop i) := by
      intro l
      induction l with
      | nil =>
        intro o cs' i hj hsz _ he hcs
        simp only [offEnd] at he
        refine ⟨by rw [hcs, he, List.drop_length], List.drop_eq_nil_of_le (by simp at hsz; omega)⟩
      | cons f l ih =>
        intro o cs' i hj hsz hok he hcs
        simp only [offOk, Bool.and_eq_true, beq_iff_eq] at hok
        obtain ⟨ho, hok⟩ := hok
        simp only [List.length_cons] at hsz
        have hi : i < xs.length := by omega
        have h0 : fs[i]? = some f := by have := hj 0; simpa using this.symm
        have hr0 := hf i f h0
        rw [ho, List.getElem?_eq_getElem hi] at hr0
        refine ⟨(cs.drop o).take (P.cellsOf f.type), cs.drop (o + P.cellsOf f.type), xs[i], xs.drop (i + 1), ?_, List.drop_eq_getElem_cons hi, hr0, ?_⟩
        · rw [hcs, ← List.drop_drop, List.take_append_drop]
        · refine ih (o + P.cellsOf f.type) _ (i + 1) (fun j => ?_) (by omega) hok he rfl
          have := hj (j + 1)
          rw [List.getElem?_cons_succ] at this
          rw [this]; congr 1; omega
    have hall := key fs.toList 0 cs 0 (fun j => by simp) (by simp) ho (by rw [hend, hl]) rfl
    rw [hts, List.drop_zero] at hall
    exact h hall (fun m hm => hw m (by simp only [DataW.weights, ht]; rw [hts]; exact hm))
end

/-- The bounds of one argument out of those of all. -/
theorem weights_at {H : Type} {P : Program} {ts : List TypeId} {ds : List (DataW H)} (h : (DataW.weightsEach P ts ds).all (· ≤ reachBytes) = true) {j : Nat} {t : TypeId} {d : DataW H} (ht : ts[j]? = some t) (hd : ds[j]? = some d) : ∀ n ∈ d.weights P t, n ≤ reachBytes :=
  fun n hn => by simpa using List.all_eq_true.1 h n (DataW.weights_mem_each ht hd n hn)
end Go.Proofs.Ytgiokbhedblkfaa.H
