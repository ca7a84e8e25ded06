/-
  No cell of these rows narrows 'for every input' (looked for: loops, veiled, ifaces, maps, wideKeys, modest, calm, conditions, laid).
  DERIVED. THE GIVEN ROWS OF THIS SEAT. 6 by the template 'for every input the law returns true; each argument reads behind the call as it read before'; 0 by the template 'total and deterministic' (their statements: YtnlcpgeapgnkgaaTotals.lean).
  GIVEN WITH THE SEED: the statements are not yours to turn. If you find one false, say at which input.
  Laid BY PROGRAM, IN A SANDBOX (cutbox-rows.mjs): the forced cells as the released guide's own fill.sh prints them over the translation 9c1b5ad736f76f21… (all of the seat's roots in one cut). By AI agents, Wed Nov 11 2026. No macro, syntax, notation, axiom, sorry.
-/
import Derived.Test.YtnlcpgeapgnkgaaChecked
import GoSem.Claim
import GoSem.ClaimJoined
import GoSem.ClaimMapViews
import Derived.JoinedTies
import Derived.KernelRfl
namespace Go.Proofs.Ytnlcpgeapgnkgaa
/- THE CELL 'sum', in the pinned program and in every row, IS THE sha256 OF THE DUMP (.gsa) THAT YtnlcpgeapgnkgaaProg.lean LOADS. Nothing in Lean hashes anything: it is a label: what it is worth is what the hold of that sum in a sandbox is worth. -/
noncomputable def Try.pinned : Pinned := { name := "ytnlcpgeapgnkgaa", sum := "9c1b5ad736f76f21585b48e7f6e1e46533829c3f915e32971999553b012ddcb3", checked := Try.checked }
namespace Rows
def none {H : Type} : Left H := { results := [], args := [] }

/-- 'cohortlaw25.ExtraEnds': WHATEVER THE INPUT: true; the input reads as it did. -/
def extraEndsSpec : ChangeSpec := { name := "extraEnds", fn := fun _ => fun
  | [d1, d2] => { results := [.lit (.bool true)], args := [d1, d2] }
  | _ => none }
def extraEndsRow : OpenClaim := { program := "ytnlcpgeapgnkgaa", sum := "9c1b5ad736f76f21585b48e7f6e1e46533829c3f915e32971999553b012ddcb3", func := "cohort/cohortlaw25.ExtraEnds", spec := "extraEnds", unfollowed := true, recurses := true, apart := false }
def ExtraEndsSaid : Prop := extraEndsRow.holds Try.pinned (OpenSpec.ofChange extraEndsSpec)

/-- ITS FALSE NEIGHBOUR: 'it returns false'. Refute it at one input. -/
def extraEndsWrong : ChangeSpec := { name := "extraEnds", fn := fun _ => fun
  | [d1, d2] => { results := [.lit (.bool false)], args := [d1, d2] }
  | _ => none }
def ExtraEndsWrongFalsely : Prop := extraEndsRow.holds Try.pinned (OpenSpec.ofChange extraEndsWrong)

/-- 'cohortlaw25.ExtraNothing': WHATEVER THE INPUT: true; the input reads as it did. -/
def extraNothingSpec : ChangeSpec := { name := "extraNothing", fn := fun _ => fun
  | [d] => { results := [.lit (.bool true)], args := [d] }
  | _ => none }
def extraNothingRow : OpenClaim := { program := "ytnlcpgeapgnkgaa", sum := "9c1b5ad736f76f21585b48e7f6e1e46533829c3f915e32971999553b012ddcb3", func := "cohort/cohortlaw25.ExtraNothing", spec := "extraNothing", unfollowed := true, recurses := true, apart := false }
def ExtraNothingSaid : Prop := extraNothingRow.holds Try.pinned (OpenSpec.ofChange extraNothingSpec)

/-- ITS FALSE NEIGHBOUR: 'it returns false'. Refute it at one input. -/
def extraNothingWrong : ChangeSpec := { name := "extraNothing", fn := fun _ => fun
  | [d] => { results := [.lit (.bool false)], args := [d] }
  | _ => none }
def ExtraNothingWrongFalsely : Prop := extraNothingRow.holds Try.pinned (OpenSpec.ofChange extraNothingWrong)

/-- 'cohortlaw02.NameTells': WHATEVER THE INPUT: true; the input reads as it did. -/
def nameTellsSpec : ChangeSpec := { name := "nameTells", fn := fun _ => fun
  | [d1, d2] => { results := [.lit (.bool true)], args := [d1, d2] }
  | _ => none }
def nameTellsRow : OpenClaim := { program := "ytnlcpgeapgnkgaa", sum := "9c1b5ad736f76f21585b48e7f6e1e46533829c3f915e32971999553b012ddcb3", func := "cohort/cohortlaw02.NameTells", spec := "nameTells", unfollowed := true, recurses := true, apart := false }
def NameTellsSaid : Prop := nameTellsRow.holds Try.pinned (OpenSpec.ofChange nameTellsSpec)

/-- ITS FALSE NEIGHBOUR: 'it returns false'. Refute it at one input. -/
def nameTellsWrong : ChangeSpec := { name := "nameTells", fn := fun _ => fun
  | [d1, d2] => { results := [.lit (.bool false)], args := [d1, d2] }
  | _ => none }
def NameTellsWrongFalsely : Prop := nameTellsRow.holds Try.pinned (OpenSpec.ofChange nameTellsWrong)

/-- 'cohortlaw02.NameLists': WHATEVER THE INPUT: true; the input reads as it did. -/
def nameListsSpec : ChangeSpec := { name := "nameLists", fn := fun _ => fun
  | [d] => { results := [.lit (.bool true)], args := [d] }
  | _ => none }
def nameListsRow : OpenClaim := { program := "ytnlcpgeapgnkgaa", sum := "9c1b5ad736f76f21585b48e7f6e1e46533829c3f915e32971999553b012ddcb3", func := "cohort/cohortlaw02.NameLists", spec := "nameLists", unfollowed := true, recurses := true, apart := false }
def NameListsSaid : Prop := nameListsRow.holds Try.pinned (OpenSpec.ofChange nameListsSpec)

/-- ITS FALSE NEIGHBOUR: 'it returns false'. Refute it at one input. -/
def nameListsWrong : ChangeSpec := { name := "nameLists", fn := fun _ => fun
  | [d] => { results := [.lit (.bool false)], args := [d] }
  | _ => none }
def NameListsWrongFalsely : Prop := nameListsRow.holds Try.pinned (OpenSpec.ofChange nameListsWrong)

/-- 'cohortlaw02.NameOrder': WHATEVER THE INPUT: true; the input reads as it did. -/
def nameOrderSpec : ChangeSpec := { name := "nameOrder", fn := fun _ => fun
  | [d1, d2, d3] => { results := [.lit (.bool true)], args := [d1, d2, d3] }
  | _ => none }
def nameOrderRow : OpenClaim := { program := "ytnlcpgeapgnkgaa", sum := "9c1b5ad736f76f21585b48e7f6e1e46533829c3f915e32971999553b012ddcb3", func := "cohort/cohortlaw02.NameOrder", spec := "nameOrder", unfollowed := true, recurses := true, apart := false }
def NameOrderSaid : Prop := nameOrderRow.holds Try.pinned (OpenSpec.ofChange nameOrderSpec)

/-- ITS FALSE NEIGHBOUR: 'it returns false'. Refute it at one input. -/
def nameOrderWrong : ChangeSpec := { name := "nameOrder", fn := fun _ => fun
  | [d1, d2, d3] => { results := [.lit (.bool false)], args := [d1, d2, d3] }
  | _ => none }
def NameOrderWrongFalsely : Prop := nameOrderRow.holds Try.pinned (OpenSpec.ofChange nameOrderWrong)

/-- 'cohortlaw02.NameSorts': WHATEVER THE INPUT: true; the input reads as it did. -/
def nameSortsSpec : ChangeSpec := { name := "nameSorts", fn := fun _ => fun
  | [d] => { results := [.lit (.bool true)], args := [d] }
  | _ => none }
def nameSortsRow : OpenClaim := { program := "ytnlcpgeapgnkgaa", sum := "9c1b5ad736f76f21585b48e7f6e1e46533829c3f915e32971999553b012ddcb3", func := "cohort/cohortlaw02.NameSorts", spec := "nameSorts", unfollowed := true, recurses := true, apart := false }
def NameSortsSaid : Prop := nameSortsRow.holds Try.pinned (OpenSpec.ofChange nameSortsSpec)

/-- ITS FALSE NEIGHBOUR: 'it returns false'. Refute it at one input. -/
def nameSortsWrong : ChangeSpec := { name := "nameSorts", fn := fun _ => fun
  | [d] => { results := [.lit (.bool false)], args := [d] }
  | _ => none }
def NameSortsWrongFalsely : Prop := nameSortsRow.holds Try.pinned (OpenSpec.ofChange nameSortsWrong)

/- THE SECOND FORM. 'bulk': how many values and letters a reading holds, each counted each time it is reached (what is shared counts as often as it is met; a slice's spare places count too). A statement '..UptoSaid' is the law's where the arguments, and the package variables that the reading takes, are together of bulk at most 1048576: NARROWER than '..Said'. Prove '..Said' where nothing that the law and all that it calls make is longer than what came in: it says more and counts as full. Else prove '..UptoSaid'. A law counts once. -/
mutual
def uptoBulk {H : Type} : DataW H → Nat
  | .lit (.string bytes) => bytes.length + 1
  | .lit _ => 1
  | .nil => 1
  | .ptr d => uptoBulk d + 1
  | .slice elems spare => uptoBulkAll elems + uptoBulkAll spare + 1
  | .agg parts => uptoBulkAll parts + 1
  | .iface _ d => uptoBulk d + 1
  | .map entries => uptoBulkEntries entries + 1
  | .held _ => 1
def uptoBulkAll {H : Type} : List (DataW H) → Nat
  | [] => 0
  | d :: r => uptoBulk d + uptoBulkAll r
def uptoBulkEntries {H : Type} : List (Lit × DataW H) → Nat
  | [] => 0
  | x :: r => uptoBulkEntry x + uptoBulkEntries r
def uptoBulkEntry {H : Type} : Lit × DataW H → Nat
  | (.string bytes, d) => bytes.length + uptoBulk d + 1
  | (_, d) => uptoBulk d + 1
 end
def uptoSmall : (H : Type) → List (DataW H) → Bool := fun _ ds => decide (uptoBulkAll ds ≤ 1048576)
def OpenSpec.upto (s : _root_.Go.ChangeSpec) : _root_.Go.OpenSpec := { _root_.Go.OpenSpec.ofChange s with cond := some uptoSmall }

/-- 'cohortlaw25.ExtraEnds', WHERE WHAT IT READS IS OF BULK AT MOST 1048576: true; the input reads as it did. -/
def extraEndsUptoRow : OpenClaim := { program := "ytnlcpgeapgnkgaa", sum := "9c1b5ad736f76f21585b48e7f6e1e46533829c3f915e32971999553b012ddcb3", func := "cohort/cohortlaw25.ExtraEnds", spec := "extraEnds", unfollowed := true, recurses := true, apart := false, narrowed := true }
def ExtraEndsUptoSaid : Prop := extraEndsUptoRow.holds Try.pinned (OpenSpec.upto extraEndsSpec)

/-- 'cohortlaw25.ExtraNothing', WHERE WHAT IT READS IS OF BULK AT MOST 1048576: true; the input reads as it did. -/
def extraNothingUptoRow : OpenClaim := { program := "ytnlcpgeapgnkgaa", sum := "9c1b5ad736f76f21585b48e7f6e1e46533829c3f915e32971999553b012ddcb3", func := "cohort/cohortlaw25.ExtraNothing", spec := "extraNothing", unfollowed := true, recurses := true, apart := false, narrowed := true }
def ExtraNothingUptoSaid : Prop := extraNothingUptoRow.holds Try.pinned (OpenSpec.upto extraNothingSpec)

/-- 'cohortlaw02.NameTells', WHERE WHAT IT READS IS OF BULK AT MOST 1048576: true; the input reads as it did. -/
def nameTellsUptoRow : OpenClaim := { program := "ytnlcpgeapgnkgaa", sum := "9c1b5ad736f76f21585b48e7f6e1e46533829c3f915e32971999553b012ddcb3", func := "cohort/cohortlaw02.NameTells", spec := "nameTells", unfollowed := true, recurses := true, apart := false, narrowed := true }
def NameTellsUptoSaid : Prop := nameTellsUptoRow.holds Try.pinned (OpenSpec.upto nameTellsSpec)

/-- 'cohortlaw02.NameLists', WHERE WHAT IT READS IS OF BULK AT MOST 1048576: true; the input reads as it did. -/
def nameListsUptoRow : OpenClaim := { program := "ytnlcpgeapgnkgaa", sum := "9c1b5ad736f76f21585b48e7f6e1e46533829c3f915e32971999553b012ddcb3", func := "cohort/cohortlaw02.NameLists", spec := "nameLists", unfollowed := true, recurses := true, apart := false, narrowed := true }
def NameListsUptoSaid : Prop := nameListsUptoRow.holds Try.pinned (OpenSpec.upto nameListsSpec)

/-- 'cohortlaw02.NameOrder', WHERE WHAT IT READS IS OF BULK AT MOST 1048576: true; the input reads as it did. -/
def nameOrderUptoRow : OpenClaim := { program := "ytnlcpgeapgnkgaa", sum := "9c1b5ad736f76f21585b48e7f6e1e46533829c3f915e32971999553b012ddcb3", func := "cohort/cohortlaw02.NameOrder", spec := "nameOrder", unfollowed := true, recurses := true, apart := false, narrowed := true }
def NameOrderUptoSaid : Prop := nameOrderUptoRow.holds Try.pinned (OpenSpec.upto nameOrderSpec)

/-- 'cohortlaw02.NameSorts', WHERE WHAT IT READS IS OF BULK AT MOST 1048576: true; the input reads as it did. -/
def nameSortsUptoRow : OpenClaim := { program := "ytnlcpgeapgnkgaa", sum := "9c1b5ad736f76f21585b48e7f6e1e46533829c3f915e32971999553b012ddcb3", func := "cohort/cohortlaw02.NameSorts", spec := "nameSorts", unfollowed := true, recurses := true, apart := false, narrowed := true }
def NameSortsUptoSaid : Prop := nameSortsUptoRow.holds Try.pinned (OpenSpec.upto nameSortsSpec)

end Rows
end Go.Proofs.Ytnlcpgeapgnkgaa
