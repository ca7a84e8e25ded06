/- How arguments of the printed types are read (printed by genopens.py). -/
import Derived.Test.YtaoflcmjmhfblaaQ0
import Derived.Test.YtaoflcmjmhfblaaRow
namespace Go.Proofs.Ytaoflcmjmhfblaa.H
open Go.RowKit Go.Proofs.YtaoflcmjmhfblaaW.PrintWords Go.Proofs.YtaoflcmjmhfblaaW.PrintLast Go.Proofs.YtaoflcmjmhfblaaW.PrintMore Go.Proofs.Ytaoflcmjmhfblaa.Q
open Go.ChangeShapes Go.WideShapes Go.ChangeAt
set_option linter.unusedVariables false
set_option linter.unusedSimpArgs false
theorem Opens.weak {P : Program} {t : TypeId} {α : Type} {k : Kd α} {wf : α → Prop} (h : Opens P t k wf) : Opens P t k (fun _ => True) where
  size := h.size
  read := fun hr hw => by
    obtain ⟨a, ha, _⟩ := h.read hr hw
    exact ⟨a, ha, trivial⟩
theorem o_intT {P : Program} {q : IntKind} (t : TypeId) (ht : P.underlying t = some (.int q)) (hc : P.cellsOf t = 1) : Opens P t (Kd.int q) (fun _ => True) := (Opens.int ht hc).weak
theorem o_boolT {P : Program} (t : TypeId) (ht : P.underlying t = some .bool) (hc : P.cellsOf t = 1) : Opens P t Kd.bool (fun _ => True) := Opens.bool ht hc
theorem o_stringT {P : Program} (t : TypeId) (ht : P.underlying t = some .string) (hc : P.cellsOf t = 1) : Opens P t Kd.string (fun _ => True) := (Opens.string ht hc).weak
theorem oT59 : Opens Try.prog 59 k59 (fun _ => True) :=
  (Opens.iso (Opens.struct (k := Kd.pair (Kd.int .u8) (Kd.pair (Kd.int .u64) (Kd.pair (Kd.int .i64) (Kd.pair Kd.bool (Kd.int .u64))))) Try.underlying59 rfl
    ((OpensFs.cons (o_intT 5 Try.underlying5 (by kernel_rfl)) (OpensFs.cons (o_intT 31 Try.underlying31 (by kernel_rfl)) (OpensFs.cons (o_intT 3 Try.underlying3 (by kernel_rfl)) (OpensFs.cons (o_boolT 4 Try.underlying4 (by kernel_rfl)) (OpensFs.one (o_intT 31 Try.underlying31 (by kernel_rfl))))))) : OpensFs _ _ (Kd.pair (Kd.int .u8) (Kd.pair (Kd.int .u64) (Kd.pair (Kd.int .i64) (Kd.pair Kd.bool (Kd.int .u64))))) _)
    (by kernel_rfl) (by kernel_rfl) (by kernel_rfl)) (fun x : S59 => (x.f0, x.f1, x.f2, x.f3, x.f4))
    (fun p => ⟨p.1, p.2.1, p.2.2.1, p.2.2.2.1, p.2.2.2.2⟩) (fun _ => rfl)).weak
theorem oT61 : Opens Try.prog 61 k61 (fun _ => True) :=
  (Opens.iso (Opens.struct (k := Kd.pair k59 (Kd.pair (Kd.int .u64) (Kd.pair (Kd.int .i64) (Kd.pair Kd.bool (Kd.int .u32))))) Try.underlying61 rfl
    ((OpensFs.cons oT59 (OpensFs.cons (o_intT 31 Try.underlying31 (by kernel_rfl)) (OpensFs.cons (o_intT 2 Try.underlying2 (by kernel_rfl)) (OpensFs.cons (o_boolT 4 Try.underlying4 (by kernel_rfl)) (OpensFs.one (o_intT 32 Try.underlying32 (by kernel_rfl))))))) : OpensFs _ _ (Kd.pair k59 (Kd.pair (Kd.int .u64) (Kd.pair (Kd.int .i64) (Kd.pair Kd.bool (Kd.int .u32))))) _)
    (by kernel_rfl) (by kernel_rfl) (by kernel_rfl)) (fun x : S61 => (x.f0, x.f1, x.f2, x.f3, x.f4))
    (fun p => ⟨p.1, p.2.1, p.2.2.1, p.2.2.2.1, p.2.2.2.2⟩) (fun _ => rfl)).weak
instance : Inhabited S61 := ⟨z61⟩
theorem oL61 : Opens Try.prog 57 (Kd.slice 61 k61) (fun l => l.length ≤ 9223372036854775807 ∧ l.length * 64 ≤ 140737488351232 ∧ ∀ x ∈ l, True) :=
  Opens.slice (bytes := 64) Try.underlying57 (by kernel_rfl) oT61 (by kernel_rfl)
end Go.Proofs.Ytaoflcmjmhfblaa.H
