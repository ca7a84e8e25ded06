/- symMerge's contract; the stable sort's. -/
import Derived.Test.YtnlcpgeapgnkgaaSymG2
namespace Go.Proofs.Ytnlcpgeapgnkgaa.H
open Go.RowKit Go.Proofs.YtnlcpgeapgnkgaaW.PrintWords Go.Proofs.YtnlcpgeapgnkgaaW.PrintLast Go.Proofs.YtnlcpgeapgnkgaaW.PrintMore
open Go.Shelf Go.Sort
set_option linter.unusedVariables false
set_option linter.unusedSimpArgs false

theorem sym_calls (n g blk cap : Nat) (cb : Array Value) (cf : Fin (n + 1) → Fin (n + 1) → Int) (idx : Fin (n + 1) → Nat) (C : CfOk cf) (d0 : Array (Fin (n + 1))) (w0 : World)
    (eg : ∀ args w, (callFunc g args).run Try.prog w = .ok (.enter g args) w) (hcmp : CmpLays1 Try.prog g cb (encF n) cf blk 0 d0.size w0)
    (R : Row1 (encF n) w0 blk 0 d0) (hsz : d0.size < 4611686018427387904) : ∀ (L a m b : Nat) (d : Array (Fin (n + 1))) (w : World), b - a ≤ L → d0.size = d.size → SW (encF n) w0 blk 0 d w → MPre cf idx a m b d →
    SymC Try.prog n g blk cap cb cf idx d0.size w0 a m b d w := by
  intro L
  induction L with
  | zero => intro a m b d w hL hs S M; have := M.am; have := M.mb; omega
  | succ L ih =>
    intro a m b d w hL hs S M
    have IH : ∀ (a' m' b' : Nat) (d' : Array (Fin (n + 1))) (w' : World), b' - a' < b - a → d.size = d'.size → SW (encF n) w0 blk 0 d' w' → MPre cf idx a' m' b' d' → SymC Try.prog n g blk cap cb cf idx d.size w0 a' m' b' d' w' :=
      fun a' m' b' d' w' hl hs' S' M' => by rw [← hs]; exact ih a' m' b' d' w' (by omega) (by omega) S' M'
    rw [hs]
    by_cases h1 : m = a + 1
    · exact symL_calls n g blk cap a m b cb cf idx C d0 d w0 w eg hcmp R hs S (by omega) M h1
    · by_cases h2 : b = m + 1
      · exact symR_calls n g blk cap a m b cb cf idx C d0 d w0 w eg hcmp R hs S (by omega) M h1 h2
      · by_cases h3 : (a + b) / 2 < m
        · exact symG1_calls n g blk cap a m b ((a + b) / 2) cb cf idx C d0 d w0 w eg hcmp R hs S (by omega) M h1 h2 rfl h3 IH
        · exact symG2_calls n g blk cap a m b ((a + b) / 2) cb cf idx C d0 d w0 w eg hcmp R hs S (by omega) M h1 h2 rfl (by omega) IH
end Go.Proofs.Ytnlcpgeapgnkgaa.H
