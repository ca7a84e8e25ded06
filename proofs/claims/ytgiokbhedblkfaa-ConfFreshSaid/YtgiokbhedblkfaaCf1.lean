/- conf: a number's field: its closures. -/
import Derived.Test.YtgiokbhedblkfaaBase
import Derived.Test.YtgiokbhedblkfaaGBase
namespace Go.Proofs.Ytgiokbhedblkfaa.C
open Go.RowKit Go.Proofs.YtgiokbhedblkfaaW.PrintWords Go.Proofs.YtgiokbhedblkfaaW.PrintLast Go.Proofs.YtgiokbhedblkfaaW.PrintMore Go.Proofs.Ytgiokbhedblkfaa.H Go.Shelf
set_option linter.unusedVariables false
set_option linter.unusedSimpArgs false
theorem getI_calls (g : Nat) (p : Addr) (x : Int) (w : World) (hb : w.cell? ⟨g, 0, none⟩ = some (.pointer (some p))) (hp : w.cell? p = some (.int .i64 x)) :
    Calls Try.prog 116 #[.pointer (some ⟨g, 0, none⟩)] w fun e w' => e = .returned (.int .i64 x) ∧ w = w' := by
  go_enter Try.func116, Try.ntmps116
  go_wp2
  go_ret
  exact ⟨rfl, rfl⟩
theorem getU_calls (g : Nat) (p : Addr) (x : Int) (w : World) (hb : w.cell? ⟨g, 0, none⟩ = some (.pointer (some p))) (hp : w.cell? p = some (.int .u64 x)) :
    Calls Try.prog 118 #[.pointer (some ⟨g, 0, none⟩)] w fun e w' => e = .returned (.int .i64 (wrap64 x)) ∧ w = w' := by
  go_enter Try.func118, Try.ntmps118
  go_wp2
  go_ret
  exact ⟨rfl, rfl⟩
theorem getB_calls (g : Nat) (p : Addr) (x : Int) (w : World) (hb : w.cell? ⟨g, 0, none⟩ = some (.pointer (some p))) (hp : w.cell? p = some (.int .u8 x)) :
    Calls Try.prog 120 #[.pointer (some ⟨g, 0, none⟩)] w fun e w' => e = .returned (.int .i64 (wrap64 x)) ∧ w = w' := by
  go_enter Try.func120, Try.ntmps120
  go_wp2
  go_ret
  exact ⟨rfl, rfl⟩
theorem getT_calls (g : Nat) (p : Addr) (b : Bool) (w : World) (hb : w.cell? ⟨g, 0, none⟩ = some (.pointer (some p))) (hp : w.cell? p = some (.bool b)) :
    Calls Try.prog 122 #[.pointer (some ⟨g, 0, none⟩)] w fun e w' => e = .returned (.int .i64 (if b = true then 1 else 0)) ∧ w = w' := by
  cases b
  all_goals
    go_enter Try.func122, Try.ntmps122
    go_wp2
    go_ret
    exact ⟨rfl, rfl⟩
theorem setI_calls (g : Nat) (p : Addr) (x n : Int) (w : World) (hb : w.cell? ⟨g, 0, none⟩ = some (.pointer (some p))) (hp : w.cell? p = some (.int .i64 x)) (hf : w.frozen? p = false) :
    Calls Try.prog 117 #[.int .i64 n, .pointer (some ⟨g, 0, none⟩)] w fun e w' => e = .returned (.tuple #[]) ∧ w' = w.setCell p (.int .i64 n) := by
  go_enter Try.func117, Try.ntmps117
  go_wp2
  go_end0
  exact ⟨rfl, rfl⟩
theorem setU_calls (g : Nat) (p : Addr) (x n : Int) (w : World) (hb : w.cell? ⟨g, 0, none⟩ = some (.pointer (some p))) (hp : w.cell? p = some (.int .u64 x)) (hf : w.frozen? p = false) :
    Calls Try.prog 119 #[.int .i64 n, .pointer (some ⟨g, 0, none⟩)] w fun e w' => e = .returned (.tuple #[]) ∧ w' = w.setCell p (.int .u64 (IntKind.u64.wrap n)) := by
  go_enter Try.func119, Try.ntmps119
  go_wp2
  go_end0
  exact ⟨rfl, rfl⟩
theorem setB_calls (g : Nat) (p : Addr) (x n : Int) (w : World) (hb : w.cell? ⟨g, 0, none⟩ = some (.pointer (some p))) (hp : w.cell? p = some (.int .u8 x)) (hf : w.frozen? p = false) :
    Calls Try.prog 121 #[.int .i64 n, .pointer (some ⟨g, 0, none⟩)] w fun e w' => e = .returned (.tuple #[]) ∧ w' = w.setCell p (.int .u8 (IntKind.u8.wrap n)) := by
  go_enter Try.func121, Try.ntmps121
  go_wp2
  go_end0
  exact ⟨rfl, rfl⟩
theorem setT_calls (g : Nat) (p : Addr) (x : Bool) (n : Int) (w : World) (hb : w.cell? ⟨g, 0, none⟩ = some (.pointer (some p))) (hp : w.cell? p = some (.bool x)) (hf : w.frozen? p = false) :
    Calls Try.prog 123 #[.int .i64 n, .pointer (some ⟨g, 0, none⟩)] w fun e w' => e = .returned (.tuple #[]) ∧ w' = w.setCell p (.bool (n == 1)) := by
  go_enter Try.func123, Try.ntmps123
  go_wp2
  go_end0
  exact ⟨rfl, rfl⟩
end Go.Proofs.Ytgiokbhedblkfaa.C
