/- From how a row reads its arguments to the kinds of the words: what is read as data is read as whole numbers, texts, lists and records. -/
import Derived.Test.YtaoflcmjmhfblaaMgA
import Derived.ProofKit
import Derived.OpenShut
import Derived.ShutString
import Derived.ChangeOld
import Derived.SizedLaws
import Derived.Deep.Slices
import Derived.Test.YtaoflcmjmhfblaaMgJ
namespace Go.Proofs.Ytaoflcmjmhfblaa.H
open Go.RowKit Go.Proofs.YtaoflcmjmhfblaaW.PrintWords Go.Proofs.YtaoflcmjmhfblaaW.PrintLast Go.Proofs.YtaoflcmjmhfblaaW.PrintMore
open Go.ChangeShapes Go.WideShapes Go.ChangeAt
set_option linter.unusedVariables false
set_option linter.unusedSimpArgs false

/-- Whatever reads as data of type t is of the kind k, and within the bounds wf. -/
structure Opens (P : Program) (t : TypeId) {α : Type} (k : Kd α) (wf : α → Prop) : Prop where
  size : P.cellsOf t = k.sz
  read : ∀ {H : Type} {enc : TypeId × Value → H} {w : World} {base : Nat} {sp : Nat → Bool} {held : Bool} {fuel : Nat} {cs : List Value} {x : DataW H × List MemPlace},
    DataW.trod enc P w base sp held fuel t cs = some x → (∀ n ∈ x.1.weights P t, n ≤ reachBytes) → ∃ a : α, k.K w a cs ∧ wf a

section
variable {P : Program} {t : TypeId}
theorem Opens.int {q : IntKind} (ht : P.underlying t = some (.int q)) (hc : P.cellsOf t = 1) : Opens P t (Kd.int q) (fun n => (Lit.int q n).wf = true) where
  size := hc
  read := fun h _ => by
    obtain ⟨n, rfl, _, hw⟩ := DataW.trod_int ht h
    exact ⟨n, rfl, hw⟩
theorem Opens.bool (ht : P.underlying t = some .bool) (hc : P.cellsOf t = 1) : Opens P t Kd.bool (fun _ => True) where
  size := hc
  read := fun h _ => by
    obtain ⟨n, rfl, _⟩ := DataW.trod_bool ht h
    exact ⟨n, rfl, trivial⟩
theorem Opens.string (ht : P.underlying t = some .string) (hc : P.cellsOf t = 1) : Opens P t Kd.string (fun s => s.size ≤ 140737488351232) where
  size := hc
  read := fun h hw => by
    obtain ⟨s, rfl, rfl, _⟩ := DataW.trod_string ht h
    refine ⟨s, rfl, ?_⟩
    have := hw s.data.toList.length (by simp [DataW.weights])
    rw [Array.length_toList] at this
    exact this
theorem Opens.iso {α β : Type} {k : Kd α} {wf : α → Prop} (h : Opens P t k wf) (f : β → α) (g : α → β) (hfg : ∀ a, f (g a) = a) : Opens P t (Kd.iso k f) (fun b => wf (f b)) where
  size := h.size
  read := fun hr hw => by
    obtain ⟨a, hk, ha⟩ := h.read hr hw
    exact ⟨g a, by show k.K _ (f (g a)) _; rw [hfg]; exact hk, by rw [hfg]; exact ha⟩

theorem weightsAll_mem {H : Type} {e : TypeId} : ∀ {l : List (DataW H)} {d : DataW H}, d ∈ l → ∀ n ∈ d.weights P e, n ∈ DataW.weightsAll P e l
  | x :: l, d, hd, n, hn => by
    simp only [DataW.weightsAll, List.mem_append]
    rcases List.mem_cons.1 hd with rfl | hd
    · exact .inl hn
    · exact .inr (weightsAll_mem hd n hn)
theorem Opens.slice {α : Type} {k : Kd α} {wf : α → Prop} {e : TypeId} {bytes : Nat} (ht : P.underlying t = some (.slice e)) (hc : P.cellsOf t = 1) (h : Opens P e k wf) (hb : P.bytesOf e = bytes) [Inhabited α] :
    Opens P t (Kd.slice e k) (fun l => l.length ≤ 9223372036854775807 ∧ l.length * bytes ≤ 140737488351232 ∧ ∀ x ∈ l, wf x) where
  size := hc
  read := fun {H enc w base sp held fuel cs x} hr hw => by
    rcases Go.Deep.open_slice ht hr with ⟨rfl, _⟩ | ⟨a, len, cap, m, n, D, Pl, rfl, _, hl, hm, hmm, rfl, hx⟩
    · exact ⟨[], ⟨none, 0, rfl, Nat.le_refl _, rfl, by simp, fun h => absurd h (Nat.lt_irrefl 0)⟩, by simp⟩
    · have hle : len ≤ m := by rw [hmm]; split <;> omega
      have hel : ∀ i, i < len → ∃ y : α, (∃ cs', w.cells? base (a.add (i * P.cellsOf e)) (P.cellsOf e) = some cs' ∧ k.K w y cs') ∧ wf y := by
        intro i hi
        obtain ⟨cs', h1, h2⟩ := hx i (by omega)
        obtain ⟨y, hy, hwf⟩ := h.read h2 (fun q hq => hw q (by
          simp only [DataW.weights, ht, List.mem_cons, List.mem_append]
          exact .inr (.inl (weightsAll_mem (List.mem_map.2 ⟨i, List.mem_range.2 hi, rfl⟩) q hq))))
        exact ⟨y, ⟨cs', h1, hy⟩, hwf⟩
      obtain ⟨f, hf⟩ := Go.Deep.choose_lt hel
      have hsz := hw ((len + (m - len)) * P.bytesOf e) (by simp [DataW.weights, ht])
      rw [hb] at hsz
      have hlen : ((List.range len).map f).length = len := by simp
      have hmax : len ≤ 9223372036854775807 := by unfold maxLen at hm; omega
      refine ⟨(List.range len).map f, ⟨some a, cap, by rw [hlen], by rw [hlen]; exact hl, by rw [hlen], by rw [hlen]; exact hmax, fun h0 => ⟨a, rfl, fun j p hp => ?_⟩⟩, by rw [hlen]; exact hmax, ?_, ?_⟩
      · have hj : j < len := by
          have := (List.getElem?_eq_some_iff.1 hp).1
          rwa [hlen] at this
        obtain ⟨⟨cs', h1, h2⟩, _⟩ := hf j hj
        have hp' : p = f j := by simpa [hj] using hp.symm
        subst hp'
        obtain ⟨_, hcl, hcell⟩ := World.cells?_some h1
        have hks := k.K_len h2
        refine ⟨cs', hks, h2, fun i u hu => ?_⟩
        have hi : i < cs'.length := (List.getElem?_eq_some_iff.1 hu).1
        have := hcell i (by omega)
        rw [Go.Deep.add_add, h.size] at this
        rw [this, hu]
      · rw [hlen]
        have : len * bytes ≤ (len + (m - len)) * bytes := Nat.mul_le_mul_right _ (by omega)
        exact Nat.le_trans this hsz
      · intro x hx
        obtain ⟨i, hi, rfl⟩ := List.mem_map.1 hx
        exact (hf i (List.mem_range.1 hi)).2

/-- A record's fields, one behind the other. -/
def FieldsRead {H : Type} (enc : TypeId × Value → H) (P : Program) (w : World) (base : Nat) (sp : Nat → Bool) (held : Bool) (n : Nat) : List TypeId → List Value → List (DataW H × List MemPlace) → Prop
  | [], cs, xs => cs = [] ∧ xs = []
  | t :: ts, cs, xs => ∃ c0 c1 x0 xs', cs = c0 ++ c1 ∧ xs = x0 :: xs' ∧ DataW.trod enc P w base sp held n t c0 = some x0 ∧ FieldsRead enc P w base sp held n ts c1 xs'
def OpensFs (P : Program) (ts : List TypeId) {α : Type} (k : Kd α) (wf : α → Prop) : Prop :=
  ∀ {H : Type} {enc : TypeId × Value → H} {w : World} {base : Nat} {sp : Nat → Bool} {held : Bool} {n : Nat} {cs : List Value} {xs : List (DataW H × List MemPlace)},
    FieldsRead enc P w base sp held n ts cs xs → (∀ m ∈ DataW.weightsEach P ts (xs.map (·.1)), m ≤ reachBytes) → ∃ a : α, k.K w a cs ∧ wf a
theorem OpensFs.one {α : Type} {k : Kd α} {wf : α → Prop} (h : Opens P t k wf) : OpensFs P [t] k wf := by
  intro H enc w base sp held n cs xs hf hw
  obtain ⟨c0, c1, x0, xs', rfl, rfl, h0, rfl, rfl⟩ := hf
  rw [List.append_nil]
  exact h.read h0 (fun m hm => hw m (by simp [DataW.weightsEach, hm]))
theorem OpensFs.cons {α β : Type} {k : Kd α} {wf : α → Prop} {k' : Kd β} {wf' : β → Prop} {ts : List TypeId} (h : Opens P t k wf) (h' : OpensFs P ts k' wf') : OpensFs P (t :: ts) (Kd.pair k k') (fun a => wf a.1 ∧ wf' a.2) := by
  intro H enc w base sp held n cs xs hf hw
  obtain ⟨c0, c1, x0, xs', rfl, rfl, h0, h1⟩ := hf
  obtain ⟨a, ha, wa⟩ := h.read h0 (fun m hm => hw m (by simp [DataW.weightsEach, hm]))
  obtain ⟨b, hb, wb⟩ := h' h1 (fun m hm => hw m (by simp only [List.map_cons, DataW.weightsEach, List.mem_append]; exact .inr hm))
  exact ⟨(a, b), ⟨c0, c1, rfl, ha, hb⟩, wa, wb⟩
def offOk (P : Program) : List Field → Nat → Bool
  | [], _ => true
  | f :: fs, o => f.offset == o && offOk P fs (o + P.cellsOf f.type)
def offEnd (P : Program) : List Field → Nat → Nat
  | [], o => o
  | f :: fs, o => offEnd P fs (o + P.cellsOf f.type)
theorem Opens.struct {α : Type} {k : Kd α} {wf : α → Prop} {fs : Array Field} {ts : List TypeId} (ht : P.underlying t = some (.struct fs)) (hts : fs.toList.map (·.type) = ts) (h : OpensFs P ts k wf) (ho : offOk P fs.toList 0 = true) (hend : offEnd P fs.toList 0 = P.cellsOf t) (hc : P.cellsOf t = k.sz) : Opens P t k wf where
  size := hc
  read := fun {H enc w base sp held fuel cs x} hr hw => by
    obtain ⟨xs, n, _, rfl, hl, hlen, hf⟩ := DataW.trod_struct ht hr
    have key : ∀ (l : List Field) (o : Nat) (cs' : List Value) (i : Nat), (∀ j, l[j]? = fs[i + j]?) → l.length + i = fs.size → offOk P l o = true → offEnd P l o = cs.length → cs' = cs.drop o →
        FieldsRead enc P w base sp held n (l.map (·.type)) cs' (xs.drop i) := by
      intro l
      induction l with
      | nil =>
        intro o cs' i hj hsz _ he hcs
        simp only [offEnd] at he
        refine ⟨by rw [hcs, he, List.drop_length], List.drop_eq_nil_of_le (by simp at hsz; omega)⟩
      | cons f l ih =>
        intro o cs' i hj hsz hok he hcs
        simp only [offOk, Bool.and_eq_true, beq_iff_eq] at hok
        obtain ⟨ho, hok⟩ := hok
        simp only [List.length_cons] at hsz
        have hi : i < xs.length := by omega
        have h0 : fs[i]? = some f := by have := hj 0; simpa using this.symm
        have hr0 := hf i f h0
        rw [ho, List.getElem?_eq_getElem hi] at hr0
        refine ⟨(cs.drop o).take (P.cellsOf f.type), cs.drop (o + P.cellsOf f.type), xs[i], xs.drop (i + 1), ?_, List.drop_eq_getElem_cons hi, hr0, ?_⟩
        · rw [hcs, ← List.drop_drop, List.take_append_drop]
        · refine ih (o + P.cellsOf f.type) _ (i + 1) (fun j => ?_) (by omega) hok he rfl
          have := hj (j + 1)
          rw [List.getElem?_cons_succ] at this
          rw [this]; congr 1; omega
    have hall := key fs.toList 0 cs 0 (fun j => by simp) (by simp) ho (by rw [hend, hl]) rfl
    rw [hts, List.drop_zero] at hall
    exact h hall (fun m hm => hw m (by simp only [DataW.weights, ht]; rw [hts]; exact hm))
end

/-- The bounds of one argument out of those of all. -/
theorem weights_at {H : Type} {P : Program} {ts : List TypeId} {ds : List (DataW H)} (h : (DataW.weightsEach P ts ds).all (· ≤ reachBytes) = true) {j : Nat} {t : TypeId} {d : DataW H} (ht : ts[j]? = some t) (hd : ds[j]? = some d) : ∀ n ∈ d.weights P t, n ≤ reachBytes :=
  fun n hn => by simpa using List.all_eq_true.1 h n (DataW.weights_mem_each ht hd n hn)
end Go.Proofs.Ytaoflcmjmhfblaa.H
/- rank's rows: how a configuration, quotes and loads are read as arguments. -/
namespace Go.Proofs.Ytaoflcmjmhfblaa.R
open Go.RowKit Go.Proofs.YtaoflcmjmhfblaaW.PrintWords Go.Proofs.YtaoflcmjmhfblaaW.PrintLast Go.Proofs.YtaoflcmjmhfblaaW.PrintMore Go.Proofs.Ytaoflcmjmhfblaa.H
open Go.ChangeShapes Go.WideShapes Go.ChangeAt
set_option linter.unusedVariables false
set_option linter.unusedSimpArgs false
theorem Opens.imp {P : Program} {t : TypeId} {α : Type} {k : Kd α} {wf wf' : α → Prop} (h : Opens P t k wf) (hi : ∀ a, wf a → wf' a) : Opens P t k wf' where
  size := h.size
  read := fun hr hw => by
    obtain ⟨a, ha, hw'⟩ := h.read hr hw
    exact ⟨a, ha, hi a hw'⟩
/-- A slice of which the header alone is told. -/
def kHead : Kd (Option Addr × Nat × Nat) := Kd.scalar (fun s => .slice s.1 s.2.1 s.2.2) (fun _ => rfl)
theorem o_head {P : Program} {t e : TypeId} (ht : P.underlying t = some (.slice e)) (hc : P.cellsOf t = 1) : Opens P t kHead (fun _ => True) where
  size := hc
  read := fun {H enc w base sp held fuel cs x} hr hw => by
    rcases Go.Deep.open_slice ht hr with ⟨rfl, _⟩ | ⟨a, len, cap, m, n, D, Pl, rfl, _⟩
    · exact ⟨(none, 0, 0), rfl, trivial⟩
    · exact ⟨(some a, len, cap), rfl, trivial⟩
theorem o_i64 : Opens Try.prog 2 (Kd.int .i64) (fun _ => True) := Opens.imp (Opens.int Try.underlying2 (by kernel_rfl)) (fun _ _ => trivial)
theorem o_u64 : Opens Try.prog 31 (Kd.int .u64) (fun _ => True) := Opens.imp (Opens.int Try.underlying31 (by kernel_rfl)) (fun _ _ => trivial)
theorem o_u8 : Opens Try.prog 5 (Kd.int .u8) (fun _ => True) := Opens.imp (Opens.int Try.underlying5 (by kernel_rfl)) (fun _ _ => trivial)
theorem o_bool : Opens Try.prog 4 Kd.bool (fun _ => True) := Opens.bool Try.underlying4 (by kernel_rfl)
theorem o_string : Opens Try.prog 9 Kd.string (fun _ => True) := Opens.imp (Opens.string Try.underlying9 (by kernel_rfl)) (fun _ _ => trivial)
theorem o_pool : Opens Try.prog 104 kPool (fun _ => True) :=
  Opens.imp (Opens.iso (Opens.struct (k := Kd.pair Kd.string (Kd.pair Kd.bool (Kd.pair (Kd.int .i64) (Kd.int .i64)))) Try.underlying104 rfl
    ((OpensFs.cons o_string (OpensFs.cons o_bool (OpensFs.cons o_i64 (OpensFs.one o_i64)))) : OpensFs _ _ _ _)
    (by kernel_rfl) (by kernel_rfl) (by kernel_rfl)) (fun p : PoolV => (p.name, p.spot, p.weight, p.prio)) (fun t => ⟨t.1, t.2.1, t.2.2.1, t.2.2.2⟩) (fun _ => rfl)) (fun _ _ => trivial)
theorem o_quote : Opens Try.prog 106 kQuote (fun _ => True) :=
  Opens.imp (Opens.iso (Opens.struct (k := Kd.pair (Kd.int .i64) (Kd.pair (Kd.int .i64) (Kd.int .u64))) Try.underlying106 rfl
    ((OpensFs.cons o_i64 (OpensFs.cons o_i64 (OpensFs.one o_u64))) : OpensFs _ _ _ _)
    (by kernel_rfl) (by kernel_rfl) (by kernel_rfl)) (fun p : QuoteV => (p.price, p.score, p.till)) (fun t => ⟨t.1, t.2.1, t.2.2⟩) (fun _ => rfl)) (fun _ _ => trivial)
def wfl {α : Type} (bytes : Nat) (l : List α) : Prop := l.length * bytes ≤ 140737488351232
theorem oL_pool : Opens Try.prog 37 (Kd.slice 104 kPool) (wfl 40) := by
  haveI : Inhabited PoolV := ⟨zPool⟩
  exact Opens.imp (Opens.slice (bytes := 40) Try.underlying37 (by kernel_rfl) o_pool (by kernel_rfl)) (fun _ h => h.2.1)
theorem oL_quote : Opens Try.prog 97 (Kd.slice 106 kQuote) (wfl 24) := by
  haveI : Inhabited QuoteV := ⟨zQuote⟩
  exact Opens.imp (Opens.slice (bytes := 24) Try.underlying97 (by kernel_rfl) o_quote (by kernel_rfl)) (fun _ h => h.2.1)
theorem oL_i64 : Opens Try.prog 111 (Kd.slice 2 (Kd.int .i64)) (wfl 8) :=
  Opens.imp (Opens.slice (bytes := 8) Try.underlying111 (by kernel_rfl) o_i64 (by kernel_rfl)) (fun _ h => h.2.1)
def kCfgR := Kd.pair (Kd.slice 104 kPool) (Kd.pair (Kd.int .u8) (Kd.pair (Kd.int .i64) (Kd.pair Kd.bool (Kd.pair (Kd.int .i64) (Kd.pair (Kd.int .i64) (Kd.pair (Kd.int .i64) (Kd.pair (Kd.int .i64) (Kd.pair (Kd.int .i64) (Kd.pair (Kd.int .i64) (Kd.pair (Kd.int .u64) (Kd.pair (Kd.int .u64) (Kd.pair (Kd.int .u64) (Kd.pair (Kd.int .u64) (Kd.pair (Kd.int .u64) (Kd.pair (Kd.int .u64) (Kd.pair Kd.bool (Kd.pair (Kd.int .i64) (Kd.pair kHead kHead))))))))))))))))))
theorem o_cfg : Opens Try.prog 41 kCfgR (fun a => wfl 40 a.1) :=
  Opens.imp (Opens.struct Try.underlying41 rfl
    ((OpensFs.cons oL_pool (OpensFs.cons o_u8 (OpensFs.cons o_i64 (OpensFs.cons o_bool (OpensFs.cons o_i64 (OpensFs.cons o_i64 (OpensFs.cons o_i64 (OpensFs.cons o_i64 (OpensFs.cons o_i64 (OpensFs.cons o_i64 (OpensFs.cons o_u64 (OpensFs.cons o_u64 (OpensFs.cons o_u64 (OpensFs.cons o_u64 (OpensFs.cons o_u64 (OpensFs.cons o_u64 (OpensFs.cons o_bool (OpensFs.cons o_i64 (OpensFs.cons (o_head Try.underlying38 (by kernel_rfl)) (OpensFs.one (o_head Try.underlying39 (by kernel_rfl)))))))))))))))))))))) : OpensFs _ _ kCfgR _)
    (by kernel_rfl) (by kernel_rfl) (by kernel_rfl)) (fun _ h => h.1)
theorem cfg_open {w : World} {a} {cs : Array Value} (h : kCfgR.K w a cs.toList) : ∃ A c st sp, CfF cs A a.1.length c st sp ∧ kPool.C w A a.1.length a.1 := by
  obtain ⟨a0, b0, e0, h0, a1, b1, rfl, h1, a2, b2, rfl, h2, a3, b3, rfl, h3, a4, b4, rfl, h4, a5, b5, rfl, h5, a6, b6, rfl, h6, a7, b7, rfl, h7, a8, b8, rfl, h8, a9, b9, rfl, h9, a10, b10, rfl, h10, a11, b11, rfl, h11, a12, b12, rfl, h12, a13, b13, rfl, h13, a14, b14, rfl, h14, a15, b15, rfl, h15, a16, b16, rfl, h16, a17, b17, rfl, h17, a18, b18, rfl, h18, h19⟩ := h
  obtain ⟨A, c, rfl, hl, hC⟩ := h0
  cases h1; cases h2; cases h3; cases h4; cases h5; cases h6; cases h7; cases h8; cases h9; cases h10; cases h11; cases h12; cases h13; cases h14; cases h15; cases h16; cases h17; cases h18; cases h19
  have e1 := congrArg List.toArray e0
  rw [Array.toArray_toList] at e1
  subst e1
  exact ⟨A, c, _, _, ⟨rfl, by simp [Value.oneCell'], rfl, rfl, rfl⟩, hC⟩
theorem rankFirst_walk {a0} {cs0 : Array Value} {a1 : List QuoteV} {A1 : Option Addr} {c1 : Nat} {spot : Bool} {now : Int} (W : World) (h0 : kCfgR.K W a0 cs0.toList) (w0 : wfl 40 a0.1) (h1 : kQuote.C W A1 a1.length a1) (hl1 : a1.length ≤ c1) (w1 : wfl 24 a1) (w3 : (Lit.int .u64 now).wf = true) :
    Calls Try.prog 11 #[.agg cs0, .slice A1 a1.length c1, .bool spot, .int .u64 now] W fun e w' => e = .returned (.bool true) ∧ Below W.heap.size W w' := by
  obtain ⟨A, c, st, sp, hF, hC⟩ := cfg_open h0
  unfold wfl at w0
  exact rankFirst_calls cs0 A A1 c c1 st sp a0.1 a1 spot now W hF hC h1 (by omega)
end Go.Proofs.Ytaoflcmjmhfblaa.R
