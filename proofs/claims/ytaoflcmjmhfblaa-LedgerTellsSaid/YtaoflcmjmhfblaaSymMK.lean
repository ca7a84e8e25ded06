/- symMerge's contract; the stable sort's. -/
import Derived.Test.YtaoflcmjmhfblaaSymG2K
namespace Go.Proofs.Ytaoflcmjmhfblaa.HK
open Go.Proofs.Ytaoflcmjmhfblaa.H
variable {Pg : Program} {α : Type} [Inhabited α] {kc : Nat}
open Go.RowKit Go.Proofs.YtaoflcmjmhfblaaW.PrintWords Go.Proofs.YtaoflcmjmhfblaaW.PrintLast Go.Proofs.YtaoflcmjmhfblaaW.PrintMore
open Go.Shelf Go.Sort
set_option linter.unusedVariables false
set_option linter.unusedSimpArgs false

theorem sym_calls (LL : LaysK Pg kc) (enc : α → List Value) (g blk off cap : Nat) (cb : Array Value) (cf : α → α → Int) (idx : α → Nat) (C : CfOk cf) (d0 : Array α) (w0 : World)
    (eg : ∀ args w, (callFunc g args).run Pg w = .ok (.enter g args) w) (hcmp : CmpLays Pg g cb enc kc cf blk off d0.size w0)
    (R : RowK enc kc w0 blk off d0) (hsz : d0.size < 4611686018427387904) : ∀ (L a m b : Nat) (d : Array α) (w : World), b - a ≤ L → d0.size = d.size → SWK enc kc w0 blk off d w → MPre cf idx a m b d →
    SymC Pg kc enc g blk off cap cb cf idx d0.size w0 a m b d w := by
  intro L
  induction L with
  | zero => intro a m b d w hL hs S M; have := M.am; have := M.mb; omega
  | succ L ih =>
    intro a m b d w hL hs S M
    have IH : ∀ (a' m' b' : Nat) (d' : Array α) (w' : World), b' - a' < b - a → d.size = d'.size → SWK enc kc w0 blk off d' w' → MPre cf idx a' m' b' d' → SymC Pg kc enc g blk off cap cb cf idx d.size w0 a' m' b' d' w' :=
      fun a' m' b' d' w' hl hs' S' M' => by rw [← hs]; exact ih a' m' b' d' w' (by omega) (by omega) S' M'
    rw [hs]
    by_cases h1 : m = a + 1
    · exact symL_calls LL enc g blk off cap a m b cb cf idx C d0 d w0 w eg hcmp R hs S (by omega) M h1
    · by_cases h2 : b = m + 1
      · exact symR_calls LL enc g blk off cap a m b cb cf idx C d0 d w0 w eg hcmp R hs S (by omega) M h1 h2
      · by_cases h3 : (a + b) / 2 < m
        · exact symG1_calls LL enc g blk off cap a m b ((a + b) / 2) cb cf idx C d0 d w0 w eg hcmp R hs S (by omega) M h1 h2 rfl h3 IH
        · exact symG2_calls LL enc g blk off cap a m b ((a + b) / 2) cb cf idx C d0 d w0 w eg hcmp R hs S (by omega) M h1 h2 rfl (by omega) IH
end Go.Proofs.Ytaoflcmjmhfblaa.HK
