/- How the arguments of InstGoes are read; the law's walk for the row. -/
import Derived.Test.YtaoflcmjmhfblaaGGoesW
import Derived.Test.YtaoflcmjmhfblaaRow
namespace Go.Proofs.Ytaoflcmjmhfblaa.I
open Go.RowKit Go.Proofs.YtaoflcmjmhfblaaW.PrintWords Go.Proofs.YtaoflcmjmhfblaaW.PrintLast Go.Proofs.YtaoflcmjmhfblaaW.PrintMore Go.Proofs.Ytaoflcmjmhfblaa.H Go.Shelf
open Go.ChangeShapes Go.WideShapes Go.ChangeAt
set_option linter.unusedVariables false
set_option linter.unusedSimpArgs false
theorem Opens.weak {P : Program} {t : TypeId} {α : Type} {k : Kd α} {wf : α → Prop} (h : Opens P t k wf) : Opens P t k (fun _ => True) where
  size := h.size
  read := fun hr hw => by
    obtain ⟨a, ha, _⟩ := h.read hr hw
    exact ⟨a, ha, trivial⟩
theorem o_i64 : Opens Try.prog 2 (Kd.int .i64) (fun _ => True) := Opens.weak (Opens.int Try.underlying2 (by kernel_rfl))
theorem o_int : Opens Try.prog 3 (Kd.int .i64) (fun _ => True) := Opens.weak (Opens.int Try.underlying3 (by kernel_rfl))
theorem o_u64 : Opens Try.prog 31 (Kd.int .u64) (fun _ => True) := Opens.weak (Opens.int Try.underlying31 (by kernel_rfl))
theorem o_u32 : Opens Try.prog 32 (Kd.int .u32) (fun _ => True) := Opens.weak (Opens.int Try.underlying32 (by kernel_rfl))
theorem o_u8 : Opens Try.prog 5 (Kd.int .u8) (fun _ => True) := Opens.weak (Opens.int Try.underlying5 (by kernel_rfl))
theorem o_bool : Opens Try.prog 4 Kd.bool (fun _ => True) := Opens.bool Try.underlying4 (by kernel_rfl)
def kInst0 := Kd.pair (Kd.int .u64) (Kd.pair (Kd.int .u64) (Kd.pair (Kd.int .i64) (Kd.pair (Kd.int .i64) (Kd.pair Kd.bool (Kd.pair (Kd.int .u8) (Kd.pair (Kd.int .u64) (Kd.pair Kd.bool (Kd.pair (Kd.int .u64) (Kd.pair Kd.bool (Kd.pair Kd.bool (Kd.int .u32)))))))))))
def kInst : Kd InV := Kd.iso kInst0 (fun i => (i.id, i.token, i.pool, i.weight, i.spot, i.state, i.due, i.noticed, i.kill, i.risk, i.held, i.version))
theorem kInst_cells {w : World} {i : InV} {cs : List Value} (h : kInst.K w i cs) : cs = i.cells.toList := by
  obtain ⟨c0, c0', rfl, h0, h⟩ := h
  obtain ⟨c1, c1', rfl, h1, h⟩ := h
  obtain ⟨c2, c2', rfl, h2, h⟩ := h
  obtain ⟨c3, c3', rfl, h3, h⟩ := h
  obtain ⟨c4, c4', rfl, h4, h⟩ := h
  obtain ⟨c5, c5', rfl, h5, h⟩ := h
  obtain ⟨c6, c6', rfl, h6, h⟩ := h
  obtain ⟨c7, c7', rfl, h7, h⟩ := h
  obtain ⟨c8, c8', rfl, h8, h⟩ := h
  obtain ⟨c9, c9', rfl, h9, h⟩ := h
  obtain ⟨c10, c10', rfl, h10, h11⟩ := h
  cases h0; cases h1; cases h2; cases h3; cases h4; cases h5; cases h6; cases h7; cases h8; cases h9; cases h10; cases h11
  rfl
theorem o_inst : Opens Try.prog 34 kInst (fun _ => True) :=
  Opens.weak (Opens.iso (Opens.struct (k := kInst0) Try.underlying34 rfl
    ((OpensFs.cons o_u64 (OpensFs.cons o_u64 (OpensFs.cons o_int (OpensFs.cons o_i64 (OpensFs.cons o_bool (OpensFs.cons o_u8 (OpensFs.cons o_u64 (OpensFs.cons o_bool (OpensFs.cons o_u64 (OpensFs.cons o_bool (OpensFs.cons o_bool (OpensFs.one o_u32)))))))))))) : OpensFs _ _ kInst0 _)
    (by kernel_rfl) (by kernel_rfl) (by kernel_rfl)) (fun i : InV => (i.id, i.token, i.pool, i.weight, i.spot, i.state, i.due, i.noticed, i.kill, i.risk, i.held, i.version))
    (fun p => ⟨p.1, p.2.1, p.2.2.1, p.2.2.2.1, p.2.2.2.2.1, p.2.2.2.2.2.1, p.2.2.2.2.2.2.1, p.2.2.2.2.2.2.2.1, p.2.2.2.2.2.2.2.2.1, p.2.2.2.2.2.2.2.2.2.1, p.2.2.2.2.2.2.2.2.2.2.1, p.2.2.2.2.2.2.2.2.2.2.2⟩) (fun _ => rfl))
instance : Inhabited DeedV := ⟨⟨0, 0, 0⟩⟩
theorem o_deed : Opens Try.prog 54 kDeed (fun d => (Lit.int .u8 d.what).wf = true ∧ (Lit.int .u8 d.wait).wf = true ∧ (Lit.int .u64 d.at_).wf = true) :=
  Opens.iso (Opens.struct (k := Kd.pair (Kd.int .u8) (Kd.pair (Kd.int .u8) (Kd.int .u64))) Try.underlying54 rfl
    ((OpensFs.cons (Opens.int Try.underlying5 (by kernel_rfl)) (OpensFs.cons (Opens.int Try.underlying5 (by kernel_rfl)) (OpensFs.one (Opens.int Try.underlying31 (by kernel_rfl))))) : OpensFs _ _ (Kd.pair (Kd.int .u8) (Kd.pair (Kd.int .u8) (Kd.int .u64))) _)
    (by kernel_rfl) (by kernel_rfl) (by kernel_rfl)) (fun d : DeedV => (d.what, d.wait, d.at_)) (fun p => ⟨p.1, p.2.1, p.2.2⟩) (fun _ => rfl)
theorem oL_deed : Opens Try.prog 51 (Kd.slice 54 kDeed) (fun l => l.length ≤ 9223372036854775807 ∧ l.length * 16 ≤ 140737488351232 ∧ ∀ d ∈ l, (Lit.int .u8 d.what).wf = true ∧ (Lit.int .u8 d.wait).wf = true ∧ (Lit.int .u64 d.at_).wf = true) :=
  Opens.slice (bytes := 16) Try.underlying51 (by kernel_rfl) o_deed (by kernel_rfl)
theorem instGoes_walk {i : InV} {cs : Array Value} {A : Option Addr} {c : Nat} {l : List DeedV} {a b d : Int} (w : World) (hi : kInst.K w i cs.toList) (_ : True) (h : Kd.C kDeed w A l.length l) (hlc : l.length ≤ c)
    (hwf : l.length ≤ 9223372036854775807 ∧ l.length * 16 ≤ 140737488351232 ∧ ∀ d ∈ l, (Lit.int .u8 d.what).wf = true ∧ (Lit.int .u8 d.wait).wf = true ∧ (Lit.int .u64 d.at_).wf = true)
    (ha : (Lit.int .u16 a).wf = true) (hb : (Lit.int .u16 b).wf = true) (hd : (Lit.int .u16 d).wf = true) :
    Calls Try.prog 6 #[.agg cs, .slice A l.length c, .int .u16 a, .int .u16 b, .int .u16 d] w fun e w' => e = .returned (.bool true) ∧ Below w.heap.size w w' := by
  have e : cs = i.cells := by
    have := kInst_cells hi
    simpa using congrArg List.toArray this
  subst e
  obtain ⟨a1, a2⟩ := bd_u16 ha
  obtain ⟨b1, b2⟩ := bd_u16 hb
  obtain ⟨d1, d2⟩ := bd_u16 hd
  exact goes_walk i A c l a b d w h (fun x hx => by
    obtain ⟨_, h2, h3⟩ := hwf.2.2 x hx
    have e2 := bd_u8 h2
    have e3 := bd_u64 h3
    exact ⟨e2.1, e2.2, e3.1, e3.2⟩) a1 a2 b1 b2 d1 d2
end Go.Proofs.Ytaoflcmjmhfblaa.I
