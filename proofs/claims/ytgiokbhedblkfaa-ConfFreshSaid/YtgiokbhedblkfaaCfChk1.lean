/- conf.Check: what it tells, in plain Lean. -/
import Derived.Test.YtgiokbhedblkfaaCfChk0
namespace Go.Proofs.Ytgiokbhedblkfaa.C
open Go.RowKit Go.Proofs.YtgiokbhedblkfaaW.PrintWords Go.Proofs.YtgiokbhedblkfaaW.PrintLast Go.Proofs.YtgiokbhedblkfaaW.PrintMore Go.Proofs.Ytgiokbhedblkfaa.H
set_option linter.unusedVariables false
set_option linter.unusedSimpArgs false
/-- A map is written (the operation's own law). -/
theorem wpList_upd {P : Program} {ops : Array Oper} {rest : List Oper} {o : Oper} {a : Act} {w : World} {Q : Exit → Act → World → Prop} (hw : Region.wanted o (yielded ops a.tmps) = true) (m x y : Operand) (t kt vt : TypeId) (hop : o.op = .mapUpdate t m x y)
    {κ ν : Type} [DecidableEq κ] {encK : κ → Value} {encV : ν → Value} (K : KeyOk P kt encK) (ht : P.underlying t = some (.map kt vt)) {B : Nat} {l : List (κ × ν)} (h : MapR encK encV w B l) (k : κ) (v : ν) (hm : a.eval m = .map (some B)) (hx : a.eval x = encK k) (hy : a.eval y = encV v)
    (hh : ∀ w', MapR encK encV w' B (setL l k v) → w.grownBy w' (some B) → wpList P ops Q rest (a.put o.dst undef) w') : wpList P ops Q (o :: rest) a w :=
  wpList_step fun K' hK => by
    rw [if_pos hw]
    obtain ⟨w', hr, h1, h2⟩ := h.update K ht k v
    unfold Oper.wp execOp
    simp only [hop, hm, hx, hy, Sem.run_bind, hr, Result.andThen, Sem.run_pure]
    exact hK _ _ (hh w' h1 h2)
def truthI (b : Bool) : Int := if b = true then 1 else 0
/-- A configuration's own numbers. -/
def cfX (x : S27) (i : Nat) : Int := ([x.f1, x.f2, truthI x.f3, x.f4, x.f5, x.f6, x.f7, x.f8, x.f9, x.f10, x.f11, x.f12, x.f13, x.f14, x.f15, truthI x.f16, x.f17] : List Int).getD i 0
def poolF (p : Addr) (y : S37) : List Fd := poolC p (truthI y.f1) y.f2 y.f3
def bandF (p : Addr) (y : S39) : List Fd := bandC p y.f0 y.f1
def planF (p : Addr) (y : S41) : List Fd := planC p y.f0 y.f1 y.f2
def a0 : Addr := ⟨0, 0, none⟩
def ownOk (x : S27) : Bool := fineL (ownC 0 (cfX x))
def poolOk (y : S37) : Bool := isL (strN y.f0) && fineL (poolF a0 y)
def planOk (y : S41) : Bool := fineL (planF a0 y)
def bandAt (l : List S39) (i : Nat) : Bool := fineL (bandF a0 (l.getD i z39)) && (decide (i = 0) || decide ((l.getD (i - 1) z39).f0 < (l.getD i z39).f0))
def bandsOk (l : List S39) (n : Nat) : Bool := (List.range n).all (bandAt l)
/-- What Check tells. -/
def checkC (x : S27) : Int :=
  if 64 < x.f0.length ∨ 8 < x.f18.length ∨ 16 < x.f19.length then 3
  else if ¬ (x.f0.map (fun y => y.f0)).Nodup then 8
  else if (decide (0 < x.f0.length) && (ownOk x && decide (x.f4 ≤ x.f5))) && x.f0.all poolOk && bandsOk x.f18 x.f18.length && x.f19.all planOk then 0 else 2
theorem own_same (g : Nat) (x : S27) : fineL (ownC g (cfX x)) = ownOk x := rfl
theorem pool_same (p : Addr) (y : S37) : fineL (poolF p y) = fineL (poolF a0 y) := rfl
theorem band_same (p : Addr) (y : S39) : fineL (bandF p y) = fineL (bandF a0 y) := rfl
theorem plan_same (p : Addr) (y : S41) : fineL (planF p y) = fineL (planF a0 y) := rfl
theorem fine_noG (l : List Fd) : fineL (l.map Fd.noG) = fineL l := by
  unfold fineL
  rw [List.any_map]
  rfl
theorem bytes_noG (l : List Fd) : (l.map Fd.noG).flatMap Fd.bytes = l.flatMap Fd.bytes := by
  induction l with
  | nil => rfl
  | cons x l ih => rw [List.map_cons, List.flatMap_cons, List.flatMap_cons, ih]; rfl
theorem truth_cell (b : Bool) : FK.cell .T (truthI b) = .bool b := by cases b <;> rfl
/-- The fields of a call that makes them, their numbers there. -/
theorem fds_in {w : World} {l cs : List Fd} {m : Nat} (hb : ∀ f ∈ l, f.Box w ∧ m ≤ f.g) (hm : l.map Fd.noG = cs) (hi : ∀ f ∈ cs, f.In w) : FdsIn w l := fun f hf =>
  ⟨(hb f hf).1, hi f.noG (by rw [← hm]; exact List.mem_map_of_mem hf)⟩
def poolCs (y : S37) : List Value := [.string y.f0, .bool y.f1, .int .i64 y.f2, .int .i64 y.f3]
def bandCs (y : S39) : List Value := [.int .i64 y.f0, .int .i64 y.f1]
def planCs (y : S41) : List Value := [.int .u64 y.f0, .int .u64 y.f1, .int .i64 y.f2]
theorem poolF_in {w : World} {p : Addr} {y : S37} (h : ∀ j v, (poolCs y)[j]? = some v → w.cell? (p.add j) = some v) : ∀ f ∈ poolF p y, f.In w := by
  intro f hf
  simp only [poolF, poolC, List.mem_cons, List.not_mem_nil, or_false] at hf
  rcases hf with rfl | rfl | rfl
  · exact (h 1 _ rfl).trans (congrArg some (truth_cell y.f1).symm)
  · exact h 2 _ rfl
  · exact h 3 _ rfl
theorem bandF_in {w : World} {p : Addr} {y : S39} (h : ∀ j v, (bandCs y)[j]? = some v → w.cell? (p.add j) = some v) : ∀ f ∈ bandF p y, f.In w := by
  intro f hf
  simp only [bandF, bandC, List.mem_cons, List.not_mem_nil, or_false] at hf
  rcases hf with rfl | rfl
  · exact h 0 _ rfl
  · exact h 1 _ rfl
theorem planF_in {w : World} {p : Addr} {y : S41} (h : ∀ j v, (planCs y)[j]? = some v → w.cell? (p.add j) = some v) : ∀ f ∈ planF p y, f.In w := by
  intro f hf
  simp only [planF, planC, List.mem_cons, List.not_mem_nil, or_false] at hf
  rcases hf with rfl | rfl | rfl
  · exact h 0 _ rfl
  · exact h 1 _ rfl
  · exact h 2 _ rfl
theorem ownF_in {w : World} {g : Nat} {x : S27} {v0 v18 v19 : Value} (h : w.heap[g]? = some (.cells (cfgC x v0 v18 v19) 27 (0, 0))) : ∀ f ∈ ownC g (cfX x), f.In w := by
  intro f hf
  simp only [ownC, List.mem_cons, List.not_mem_nil, or_false] at hf
  rcases hf with rfl | rfl | rfl | rfl | rfl | rfl | rfl | rfl | rfl | rfl | rfl | rfl | rfl | rfl | rfl | rfl | rfl
  · exact blk_cellk h 1 rfl
  · exact blk_cellk h 2 rfl
  · exact (blk_cellk h 3 rfl).trans (congrArg some (truth_cell x.f3).symm)
  · exact blk_cellk h 4 rfl
  · exact blk_cellk h 5 rfl
  · exact blk_cellk h 6 rfl
  · exact blk_cellk h 7 rfl
  · exact blk_cellk h 8 rfl
  · exact blk_cellk h 9 rfl
  · exact blk_cellk h 10 rfl
  · exact blk_cellk h 11 rfl
  · exact blk_cellk h 12 rfl
  · exact blk_cellk h 13 rfl
  · exact blk_cellk h 14 rfl
  · exact blk_cellk h 15 rfl
  · exact (blk_cellk h 16 rfl).trans (congrArg some (truth_cell x.f16).symm)
  · exact blk_cellk h 17 rfl
theorem kPool_C {w : World} {A : Option Addr} {n : Nat} {l : List S37} (h : Kd.C k37 w A n l) (i : Nat) (hi : i < n) : ∃ ad, A = some ad ∧ ∀ j v, (poolCs (l.getD i z37))[j]? = some v → w.cell? ((ad.add (i * 4)).add j) = some v := by
  obtain ⟨ad, cs, e, _, h4, h5⟩ := Kd.C_get h z37 (i : Int) (by omega) (by omega)
  rw [Int.toNat_natCast] at h4 h5
  have e2 := k37_open h4
  subst e2
  exact ⟨ad, e, fun j v hv => by rw [add_add]; exact h5 j v hv⟩
theorem kBand_C {w : World} {A : Option Addr} {n : Nat} {l : List S39} (h : Kd.C k39 w A n l) (i : Nat) (hi : i < n) : ∃ ad, A = some ad ∧ ∀ j v, (bandCs (l.getD i z39))[j]? = some v → w.cell? ((ad.add (i * 2)).add j) = some v := by
  obtain ⟨ad, cs, e, _, h4, h5⟩ := Kd.C_get h z39 (i : Int) (by omega) (by omega)
  rw [Int.toNat_natCast] at h4 h5
  have e2 := k39_open h4
  subst e2
  exact ⟨ad, e, fun j v hv => by rw [add_add]; exact h5 j v hv⟩
theorem kPlan_C {w : World} {A : Option Addr} {n : Nat} {l : List S41} (h : Kd.C k41 w A n l) (i : Nat) (hi : i < n) : ∃ ad, A = some ad ∧ ∀ j v, (planCs (l.getD i z41))[j]? = some v → w.cell? ((ad.add (i * 3)).add j) = some v := by
  obtain ⟨ad, cs, e, _, h4, h5⟩ := Kd.C_get h z41 (i : Int) (by omega) (by omega)
  rw [Int.toNat_natCast] at h4 h5
  have e2 := k41_open h4
  subst e2
  exact ⟨ad, e, fun j v hv => by rw [add_add]; exact h5 j v hv⟩
end Go.Proofs.Ytgiokbhedblkfaa.C
