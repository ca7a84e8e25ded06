/- recon's rows: how told and instances are read as arguments. -/
import Derived.Test.YtaoflcmjmhfblaaRc9
namespace Go.Proofs.Ytaoflcmjmhfblaa.C
open Go.RowKit Go.Proofs.YtaoflcmjmhfblaaW.PrintWords Go.Proofs.YtaoflcmjmhfblaaW.PrintLast Go.Proofs.YtaoflcmjmhfblaaW.PrintMore Go.Proofs.Ytaoflcmjmhfblaa.H
open Go.ChangeShapes Go.WideShapes Go.ChangeAt
set_option linter.unusedVariables false
set_option linter.unusedSimpArgs false
theorem Opens.imp {P : Program} {t : TypeId} {α : Type} {k : Kd α} {wf wf' : α → Prop} (h : Opens P t k wf) (hi : ∀ a, wf a → wf' a) : Opens P t k wf' where
  size := h.size
  read := fun hr hw => by
    obtain ⟨a, ha, hw'⟩ := h.read hr hw
    exact ⟨a, ha, hi a hw'⟩
theorem o_told : Opens Try.prog 45 kTol (fun t => 0 ≤ t.id ∧ 0 ≤ t.token ∧ 0 ≤ t.state) :=
  Opens.imp (Opens.iso (Opens.struct (k := kTol0) Try.underlying45 rfl o_told0
    (by kernel_rfl) (by kernel_rfl) (by kernel_rfl)) (fun t : TolV => (t.id, t.token, t.state)) (fun p => ⟨p.1, p.2.1, p.2.2⟩) (fun _ => rfl)) (fun t h => ⟨(bd_u64 h.1).1, (bd_u64 h.2.1).1, (bd_u8 h.2.2).1⟩)
theorem oL_told : Opens Try.prog 22 (Kd.slice 45 kTol) (fun T => wfT T) := by
  haveI : Inhabited TolV := ⟨noTol⟩
  refine Opens.imp (Opens.slice (bytes := 24) Try.underlying22 (by kernel_rfl) o_told (by kernel_rfl)) (fun T h i hi => ?_)
  have := h.2.2 (T.getD i noTol) (by rw [List.getD_eq_getElem?_getD, List.getElem?_eq_getElem hi]; exact List.getElem_mem _)
  exact this
theorem oL_inst : Opens Try.prog 23 (Kd.slice 34 kInst) (fun _ => True) := by
  haveI : Inhabited InV := ⟨noInst⟩
  exact Opens.weak (Opens.slice (bytes := 72) Try.underlying23 (by kernel_rfl) o_inst (by kernel_rfl))
theorem reconStill_walk {a0 : List InV} {A0 : Option Addr} {c0 : Nat} (W : World) (h0 : kInst.C W A0 a0.length a0) (hl0 : a0.length ≤ c0) (w0 : True) :
    Calls Try.prog 4 #[.slice A0 a0.length c0] W fun e w' => e = .returned (.bool true) ∧ Below W.heap.size W w' := reconStill_calls c0 W h0
theorem reconEach_walk {a0 : List TolV} {A0 : Option Addr} {c0 : Nat} {a1 : List InV} {A1 : Option Addr} {c1 : Nat} (W : World) (h0 : kTol.C W A0 a0.length a0) (hl0 : a0.length ≤ c0) (w0 : wfT a0) (h1 : kInst.C W A1 a1.length a1) (hl1 : a1.length ≤ c1) (w1 : True) :
    Calls Try.prog 3 #[.slice A0 a0.length c0, .slice A1 a1.length c1] W fun e w' => e = .returned (.bool true) ∧ Below W.heap.size W w' := reconEach_calls c0 c1 W h0 h1 w0
end Go.Proofs.Ytaoflcmjmhfblaa.C
