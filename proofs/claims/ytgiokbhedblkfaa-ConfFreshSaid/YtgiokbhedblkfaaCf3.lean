/- conf: a field of any kind: what its closures give and set. -/
import Derived.Test.YtgiokbhedblkfaaCf2
import Derived.Test.YtgiokbhedblkfaaGHeld
namespace Go.Proofs.Ytgiokbhedblkfaa.C
open Go.RowKit Go.Proofs.YtgiokbhedblkfaaW.PrintWords Go.Proofs.YtgiokbhedblkfaaW.PrintLast Go.Proofs.YtgiokbhedblkfaaW.PrintMore Go.Proofs.Ytgiokbhedblkfaa.H Go.Shelf
set_option linter.unusedVariables false
set_option linter.unusedSimpArgs false
/-- Elements of n plain cells. -/
def flatKd {α : Type} (n : Nat) (f : α → List Value) (hl : ∀ x, (f x).length = n) (h1 : ∀ x, ∀ u ∈ f x, u.oneCell' = true) : Kd α where
  sz := n
  E := []
  K := fun _ x cs => cs = f x
  M := fun _ _ _ x cs => cs = f x
  K_len := fun {w x cs} h => by rw [h]; exact hl x
  K_one := fun {w x cs} h => by rw [h]; exact h1 x
  K_below := fun _ h => h
  K_of_M := fun h => h
  M_mono := fun _ h => h
  M_bound := fun h => h
  M_move := fun _ h => h
  M_lower := fun _ h => h
/-- The kind of number that a field has. -/
inductive FK | I | U | B | T
def FK.get : FK → Nat | .I => 116 | .U => 118 | .B => 120 | .T => 122
def FK.put : FK → Nat | .I => 117 | .U => 119 | .B => 121 | .T => 123
def FK.isT : FK → Bool | .T => true | _ => false
/-- The number's cell, its contents x told as a number. -/
def FK.cell (k : FK) (x : Int) : Value := match k with | .I => .int .i64 x | .U => .int .u64 x | .B => .int .u8 x | .T => .bool (x == 1)
def FK.rd (k : FK) (x : Int) : Int := match k with | .I => x | .U => wrap64 x | .B => wrap64 x | .T => if (x == 1) = true then 1 else 0
def FK.wr (k : FK) (n : Int) : Int := match k with | .I => n | .U => IntKind.u64.wrap n | .B => IntKind.u8.wrap n | .T => if (n == 1) = true then 1 else 0
/-- A field: kind, where its number lies, the box of its closures, and its numbers; x: what its number is. -/
structure Fd where
  k : FK
  p : Addr
  g : Nat
  size : Int
  least : Int
  most : Int
  frm : Int
  x : Int
def Fd.cells (f : Fd) : List Value := [.func (.func f.k.get) #[] #[.pointer (some ⟨f.g, 0, none⟩)], .func (.func f.k.put) #[] #[.pointer (some ⟨f.g, 0, none⟩)], .int .i64 f.size, .int .i64 f.least, .int .i64 f.most, .int .i64 f.frm, .bool f.k.isT]
def Fd.v (f : Fd) : Value := .agg f.cells.toArray
def zFd : Fd := ⟨.I, ⟨0, 0, none⟩, 0, 0, 0, 0, 0, 0⟩
def kFd : Kd Fd := flatKd 7 Fd.cells (fun _ => rfl) (fun f u hu => List.all_eq_true.1 (show f.cells.all (·.oneCell') = true from by simp [Fd.cells, Value.oneCell']) u hu)
/-- The box holds the number's place. -/
def Fd.Box (W : World) (f : Fd) : Prop := W.cell? ⟨f.g, 0, none⟩ = some (.pointer (some f.p))
/-- The number is there. -/
def Fd.In (W : World) (f : Fd) : Prop := W.cell? f.p = some (f.k.cell f.x)
theorem FK.get_enter (k : FK) (args : Array Value) (w : World) : (callFunc k.get args).run Try.prog w = .ok (.enter k.get args) w := by cases k <;> kernel_rfl
theorem FK.put_enter (k : FK) (args : Array Value) (w : World) : (callFunc k.put args).run Try.prog w = .ok (.enter k.put args) w := by cases k <;> kernel_rfl
theorem get_calls (f : Fd) (w : World) (hb : f.Box w) (hp : f.In w) :
    Calls Try.prog f.k.get #[.pointer (some ⟨f.g, 0, none⟩)] w fun e w' => e = .returned (.int .i64 (f.k.rd f.x)) ∧ w = w' := by
  obtain ⟨k, p, g, s, l, m, fr, x⟩ := f
  cases k
  · exact getI_calls g p x w hb hp
  · exact getU_calls g p x w hb hp
  · exact getB_calls g p x w hb hp
  · exact getT_calls g p (x == 1) w hb hp
theorem put_calls (f : Fd) (n : Int) (w : World) (hb : f.Box w) (hp : f.In w) (hf : w.frozen? f.p = false) :
    Calls Try.prog f.k.put #[.int .i64 n, .pointer (some ⟨f.g, 0, none⟩)] w fun e w' => e = .returned (.tuple #[]) ∧ w' = w.setCell f.p (f.k.cell (f.k.wr n)) := by
  obtain ⟨k, p, g, s, l, m, fr, x⟩ := f
  cases k
  · exact setI_calls g p x n w hb hp hf
  · exact setU_calls g p x n w hb hp hf
  · exact setB_calls g p x n w hb hp hf
  · have h := setT_calls g p (x == 1) n w hb hp hf
    have e : Value.bool (n == 1) = FK.cell .T (FK.wr .T n) := by
      simp only [FK.cell, FK.wr]
      cases hn : (n == 1) <;> rfl
    rw [e] at h
    exact h
theorem kFd_C {w : World} {A : Option Addr} {n : Nat} {l : List Fd} (h : Kd.C kFd w A n l) (i : Nat) (hi : i < n) : ∃ ad, A = some ad ∧ ∀ j v, ((l.getD i zFd).cells)[j]? = some v → w.cell? ((ad.add (i * 7)).add j) = some v := by
  obtain ⟨ad, cs, e, _, h4, h5⟩ := Kd.C_get h zFd (i : Int) (by omega) (by omega)
  rw [Int.toNat_natCast] at h4 h5
  have e2 : cs = (l.getD i zFd).cells := h4
  subst e2
  refine ⟨ad, e, fun j v hv => ?_⟩
  rw [add_add]
  exact h5 j v hv
theorem Fd.Box.below {w W : World} {f : Fd} (h : f.Box w) (hb : Below w.heap.size w W) : f.Box W := (hb.cell (World.block_lt_of_cell? w _ h)).trans h
theorem Fd.In.below {w W : World} {f : Fd} (h : f.In w) (hb : Below w.heap.size w W) : f.In W := (hb.cell (World.block_lt_of_cell? w _ h)).trans h
end Go.Proofs.Ytgiokbhedblkfaa.C
