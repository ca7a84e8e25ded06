/- How rows and changes that come in are read. -/
import Derived.Test.YtaoflcmjmhfblaaRow
import Derived.Test.YtaoflcmjmhfblaaNumB
import Derived.Test.YtaoflcmjmhfblaaBaMay
namespace Go.Proofs.Ytaoflcmjmhfblaa.D
open Go.RowKit Go.Proofs.YtaoflcmjmhfblaaW.PrintWords Go.Proofs.YtaoflcmjmhfblaaW.PrintLast Go.Proofs.YtaoflcmjmhfblaaW.PrintMore Go.Proofs.Ytaoflcmjmhfblaa.H
open Go.ChangeShapes Go.WideShapes Go.ChangeAt
set_option linter.unusedVariables false
set_option linter.unusedSimpArgs false
theorem opens_mono {P : Program} {t : TypeId} {α : Type} {k : Kd α} {wf wf' : α → Prop} (h : Opens P t k wf) (hh : ∀ a, wf a → wf' a) : Opens P t k wf' where
  size := h.size
  read := fun hr hw => by
    obtain ⟨a, ha, hb⟩ := h.read hr hw
    exact ⟨a, ha, hh a hb⟩
theorem oBytes : Opens Try.prog 76 (Kd.slice 5 (Kd.int .u8)) (fun l => Bytes l) :=
  opens_mono (Opens.slice (bytes := 1) Try.underlying76 (by kernel_rfl) (Opens.int Try.underlying5 (by kernel_rfl)) (by kernel_rfl)) (fun l h x hx => bd_u8 (h.2.2 x hx))
theorem oBytesL : Opens Try.prog 76 (Kd.slice 5 (Kd.int .u8)) (fun l => Bytes l ∧ l.length ≤ 140737488351232) :=
  opens_mono (Opens.slice (bytes := 1) Try.underlying76 (by kernel_rfl) (Opens.int Try.underlying5 (by kernel_rfl)) (by kernel_rfl)) (fun l h => ⟨fun x hx => bd_u8 (h.2.2 x hx), by have := h.2.1; omega⟩)
theorem oRow : Opens Try.prog 161 kRow (fun x => Bytes x.f1) :=
  opens_mono (Opens.iso (Opens.struct (k := Kd.pair Kd.string (Kd.slice 5 (Kd.int .u8))) Try.underlying161 rfl
    ((OpensFs.cons (Opens.string Try.underlying9 (by kernel_rfl)) (OpensFs.one oBytes)) : OpensFs _ _ (Kd.pair Kd.string (Kd.slice 5 (Kd.int .u8))) _)
    (by kernel_rfl) (by kernel_rfl) (by kernel_rfl)) (fun x : RowS => (x.f0, x.f1)) (fun p => ⟨p.1, p.2⟩) (fun _ => rfl)) (fun a h => h.2)
instance : Inhabited RowS := ⟨z161⟩
theorem oRows : Opens Try.prog 85 (Kd.slice 161 kRow) (fun l => l.length ≤ 9223372036854775807 ∧ l.length * 40 ≤ 140737488351232 ∧ ∀ x ∈ l, Bytes x.f1) :=
  Opens.slice (bytes := 40) Try.underlying85 (by kernel_rfl) oRow (by kernel_rfl)
theorem oChg : Opens Try.prog 96 kChg (fun x => Bytes x.f1) :=
  opens_mono (Opens.iso (Opens.struct (k := Kd.pair Kd.string (Kd.pair (Kd.slice 5 (Kd.int .u8)) Kd.bool)) Try.underlying96 rfl
    ((OpensFs.cons (Opens.string Try.underlying9 (by kernel_rfl)) (OpensFs.cons oBytes (OpensFs.one (Opens.bool Try.underlying4 (by kernel_rfl))))) : OpensFs _ _ (Kd.pair Kd.string (Kd.pair (Kd.slice 5 (Kd.int .u8)) Kd.bool)) _)
    (by kernel_rfl) (by kernel_rfl) (by kernel_rfl)) (fun x : ChgS => (x.f0, x.f1, x.f2)) (fun p => ⟨p.1, p.2.1, p.2.2⟩) (fun _ => rfl)) (fun a h => h.2.1)
instance : Inhabited ChgS := ⟨z96⟩
theorem oChgs : Opens Try.prog 75 (Kd.slice 96 kChg) (fun l => l.length ≤ 9223372036854775807 ∧ l.length * 48 ≤ 140737488351232 ∧ ∀ x ∈ l, Bytes x.f1) :=
  Opens.slice (bytes := 48) Try.underlying75 (by kernel_rfl) oChg (by kernel_rfl)
end Go.Proofs.Ytaoflcmjmhfblaa.D
