/- rank.Order's closures. -/
import Derived.Test.YtaoflcmjmhfblaaMgE
import Derived.Test.YtaoflcmjmhfblaaMgA
import Derived.Test.YtaoflcmjmhfblaaMgD
namespace Go.Proofs.Ytaoflcmjmhfblaa.R
open Go.RowKit Go.Proofs.YtaoflcmjmhfblaaW.PrintWords Go.Proofs.YtaoflcmjmhfblaaW.PrintLast Go.Proofs.YtaoflcmjmhfblaaW.PrintMore Go.Proofs.Ytaoflcmjmhfblaa.H Go.Shelf
set_option linter.unusedVariables false
set_option linter.unusedSimpArgs false
/-- A function value tells cf of two places, of those of which S holds. -/
def OrdW (P : Program) (g : Nat) (cap : Array Value) (cf : Int → Int → Int) (S : Int → Prop) (w : World) : Prop :=
  ∀ (W : World) (i k : Int), S i → S k → Below w.heap.size w W → Calls P g (#[.int .i64 i, .int .i64 k] ++ cap) W fun e w' => e = .returned (.int .i64 (cf i k)) ∧ Bel W w'
theorem OrdW.later {P : Program} {g : Nat} {cap : Array Value} {cf : Int → Int → Int} {S : Int → Prop} {w w1 : World} (h : OrdW P g cap cf S w) (hb : Below w.heap.size w w1) : OrdW P g cap cf S w1 :=
  fun W i k hi hk hW => h W i k hi hk (below_step hb hW)
/-- What lies in memory: the pools' slice in block g4, the quotes' in block g5, their rows. -/
structure MemR (w : World) (g4 g5 : Nat) (Ap Aq : Option Addr) (cp cq : Nat) (ps : List PoolV) (qs : List QuoteV) : Prop where
  b4 : w.cell? ⟨g4, 0, none⟩ = some (.slice Ap ps.length cp)
  b5 : w.cell? ⟨g5, 0, none⟩ = some (.slice Aq qs.length cq)
  hp : Kd.C kPool w Ap ps.length ps
  hq : Kd.C kQuote w Aq qs.length qs
theorem MemR.later {w w1 : World} {g4 g5 : Nat} {Ap Aq : Option Addr} {cp cq : Nat} {ps : List PoolV} {qs : List QuoteV} (h : MemR w g4 g5 Ap Aq cp cq ps qs) (hb : Below w.heap.size w w1) : MemR w1 g4 g5 Ap Aq cp cq ps qs :=
  ⟨(hb.cell (World.block_lt_of_cell? _ _ h.b4)).trans h.b4, (hb.cell (World.block_lt_of_cell? _ _ h.b5)).trans h.b5, Kd.C_below h.hp hb, Kd.C_below h.hq hb⟩
/-- A place of a pool that has a quote. -/
def InP (ps : List PoolV) (qs : List QuoteV) (i : Int) : Prop := 0 ≤ i ∧ i < ps.length ∧ i < qs.length
def pAt (ps : List PoolV) (i : Int) : PoolV := ps.getD i.toNat zPool
def qAt (qs : List QuoteV) (i : Int) : QuoteV := qs.getD i.toNat zQuote
def priceC (ps : List PoolV) (qs : List QuoteV) (i k : Int) : Int := cheaperI (pAt ps i) (pAt ps k) (qAt qs i) (qAt qs k)
def scoreC (qs : List QuoteV) (i k : Int) : Int := cmpI (qAt qs k).score (qAt qs i).score
def prioC (ps : List PoolV) (i k : Int) : Int := cmpI (pAt ps i).prio (pAt ps k).prio
set_option maxHeartbeats 4000000 in
set_option maxRecDepth 100000 in
theorem ord3_reg (ap aq : Addr) (np cp nq cq i k g4 g5 : Nat) (p1 p2 : PoolV) (q1 q2 : QuoteV) (r : Int) (hi1 : i < np) (hi2 : i < nq) (hj1 : (i : Int) < (np : Int)) (hj2 : (i : Int) < (nq : Int)) (hj0 : 0 ≤ (i : Int)) (hk1 : k < np) (hk2 : k < nq) (hl1 : (k : Int) < (np : Int)) (hl2 : (k : Int) < (nq : Int)) (hl0 : 0 ≤ (k : Int)) {Q : Exit → Act → World → Prop} (a0 : Act) (W0 : World) (hs : a0.tmps.size = 26) (hdf : a0.defers = []) (f0 : a0.eval (.tmp 0) = .int .i64 (i : Int)) (f1 : a0.eval (.tmp 1) = .int .i64 (k : Int)) (f2 : a0.eval (.tmp 2) = .pointer (some ⟨g4, 0, none⟩)) (f3 : a0.eval (.tmp 3) = .pointer (some ⟨g5, 0, none⟩)) (h4 : W0.cell? ⟨g4, 0, none⟩ = some (.slice (some ap) np cp)) (h5 : W0.cell? ⟨g5, 0, none⟩ = some (.slice (some aq) nq cq)) (hp1 : ∀ j v, p1.cells.toList[j]? = some v → W0.cell? ((ap.add (i * 4)).add j) = some v) (hp2 : ∀ j v, p2.cells.toList[j]? = some v → W0.cell? ((ap.add (k * 4)).add j) = some v) (hq1 : ∀ j v, q1.cells.toList[j]? = some v → W0.cell? ((aq.add (i * 3)).add j) = some v) (hq2 : ∀ j v, q2.cells.toList[j]? = some v → W0.cell? ((aq.add (k * 3)).add j) = some v) (hcall : ∀ W, Calls Try.prog 52 #[.agg p1.cells, .agg p2.cells, .agg q1.cells, .agg q2.cells] W fun e w' => e = .returned (.int .i64 r) ∧ Bel W w') (hQ : ∀ W, Bel W0 W → Q .normal (setA a0 [(7, .pointer (some ⟨g4, 0, none⟩)), (8, .slice (some ap) np cp), (9, .int .i64 (i : Int)), (10, .pointer (some (ap.add (i * 4)))), (11, .agg p1.cells), (12, .pointer (some ⟨g4, 0, none⟩)), (13, .slice (some ap) np cp), (14, .int .i64 (k : Int)), (15, .pointer (some (ap.add (k * 4)))), (16, .agg p2.cells), (17, .slice (some aq) nq cq), (18, .int .i64 (i : Int)), (19, .pointer (some (aq.add (i * 3)))), (20, .agg q1.cells), (21, .slice (some aq) nq cq), (22, .int .i64 (k : Int)), (23, .pointer (some (aq.add (k * 3)))), (24, .agg q2.cells), (25, .int .i64 r), (6, .int .i64 r)]) W) : (Code.region 1 #[{ dst := some 7, op := Op.fieldAddr 41 (Operand.tmp 2) 0, type := 0, pos := "rank.go:61", after := #[], guard := none }, { dst := some 8, op := Op.load 37 (Operand.tmp 7), type := 37, pos := "rank.go:61", after := #[{ on := 0, ground := Ground.data }], guard := none }, { dst := some 9, op := Op.move (Operand.tmp 0), type := 3, pos := "rank.go:61", after := #[], guard := none }, { dst := some 10, op := Op.indexAddr 37 (Operand.tmp 8) (Operand.tmp 9), type := 0, pos := "rank.go:61", after := #[{ on := 1, ground := Ground.data }, { on := 2, ground := Ground.data }], guard := none }, { dst := some 11, op := Op.load 104 (Operand.tmp 10), type := 104, pos := "rank.go:61", after := #[{ on := 3, ground := Ground.data }], guard := none }, { dst := some 12, op := Op.fieldAddr 41 (Operand.tmp 2) 0, type := 0, pos := "rank.go:61", after := #[], guard := none }, { dst := some 13, op := Op.load 37 (Operand.tmp 12), type := 37, pos := "rank.go:61", after := #[{ on := 5, ground := Ground.data }], guard := none }, { dst := some 14, op := Op.move (Operand.tmp 1), type := 3, pos := "rank.go:61", after := #[], guard := none }, { dst := some 15, op := Op.indexAddr 37 (Operand.tmp 13) (Operand.tmp 14), type := 0, pos := "rank.go:61", after := #[{ on := 6, ground := Ground.data }, { on := 7, ground := Ground.data }], guard := none }, { dst := some 16, op := Op.load 104 (Operand.tmp 15), type := 104, pos := "rank.go:61", after := #[{ on := 8, ground := Ground.data }], guard := none }, { dst := some 17, op := Op.load 97 (Operand.tmp 3), type := 97, pos := "rank.go:61", after := #[], guard := none }, { dst := some 18, op := Op.move (Operand.tmp 0), type := 3, pos := "rank.go:61", after := #[], guard := none }, { dst := some 19, op := Op.indexAddr 97 (Operand.tmp 17) (Operand.tmp 18), type := 0, pos := "rank.go:61", after := #[{ on := 10, ground := Ground.data }, { on := 11, ground := Ground.data }], guard := none }, { dst := some 20, op := Op.load 106 (Operand.tmp 19), type := 106, pos := "rank.go:61", after := #[{ on := 12, ground := Ground.data }], guard := none }, { dst := some 21, op := Op.load 97 (Operand.tmp 3), type := 97, pos := "rank.go:61", after := #[], guard := none }, { dst := some 22, op := Op.move (Operand.tmp 1), type := 3, pos := "rank.go:61", after := #[], guard := none }, { dst := some 23, op := Op.indexAddr 97 (Operand.tmp 21) (Operand.tmp 22), type := 0, pos := "rank.go:61", after := #[{ on := 14, ground := Ground.data }, { on := 15, ground := Ground.data }], guard := none }, { dst := some 24, op := Op.load 106 (Operand.tmp 23), type := 106, pos := "rank.go:61", after := #[{ on := 16, ground := Ground.data }], guard := none }, { dst := some 25, op := Op.call { callee := Callee.value (Operand.func 52), args := #[Operand.tmp 11, Operand.tmp 16, Operand.tmp 20, Operand.tmp 24], argTypes := #[104, 104, 106, 106] }, type := 3, pos := "rank.go:61", after := #[{ on := 4, ground := Ground.data }, { on := 9, ground := Ground.data }, { on := 13, ground := Ground.data }, { on := 17, ground := Ground.data }], guard := none }, { dst := some 6, op := Op.assign (Operand.tmp 25), type := 3, pos := "rank.go:61", after := #[{ on := 18, ground := Ground.data }, { on := 18, ground := Ground.chain }, { on := 0, ground := Ground.phase }, { on := 1, ground := Ground.phase }, { on := 2, ground := Ground.phase }, { on := 3, ground := Ground.phase }, { on := 4, ground := Ground.phase }, { on := 5, ground := Ground.phase }, { on := 6, ground := Ground.phase }, { on := 7, ground := Ground.phase }, { on := 8, ground := Ground.phase }, { on := 9, ground := Ground.phase }, { on := 10, ground := Ground.phase }, { on := 11, ground := Ground.phase }, { on := 12, ground := Ground.phase }, { on := 13, ground := Ground.phase }, { on := 14, ground := Ground.phase }, { on := 15, ground := Ground.phase }, { on := 16, ground := Ground.phase }, { on := 17, ground := Ground.phase }, { on := 18, ground := Ground.phase }], guard := none }] true).wp Try.prog Q a0 W0 := by
  refine wp_region_inv_at (by kernel_rfl) (fun a0 L a W => a0.tmps.size = 26 ∧ VInv [(0, 7, .pointer (some ⟨g4, 0, none⟩)), (1, 8, .slice (some ap) np cp), (2, 9, .int .i64 (i : Int)), (3, 10, .pointer (some (ap.add (i * 4)))), (4, 11, .agg p1.cells), (5, 12, .pointer (some ⟨g4, 0, none⟩)), (6, 13, .slice (some ap) np cp), (7, 14, .int .i64 (k : Int)), (8, 15, .pointer (some (ap.add (k * 4)))), (9, 16, .agg p2.cells), (10, 17, .slice (some aq) nq cq), (11, 18, .int .i64 (i : Int)), (12, 19, .pointer (some (aq.add (i * 3)))), (13, 20, .agg q1.cells), (14, 21, .slice (some aq) nq cq), (15, 22, .int .i64 (k : Int)), (16, 23, .pointer (some (aq.add (k * 3)))), (17, 24, .agg q2.cells), (18, 25, .int .i64 r), (19, 6, .int .i64 r)] [7, 8, 9, 10, 11, 12, 13, 14, 15, 16, 17, 18, 19, 20, 21, 22, 23, 24, 25, 6] a0 L a ∧ ∃ g : Nat, AInvD W0 W) (by kernel_rfl) ⟨hs, VInv.start _ _ _, 0, AInvD.start (Bel.refl _).drew⟩ ?_ ?_
  · intro L i' o a W K hI ho hL hdep0 hK
    obtain ⟨hs, hV, g, hA⟩ := hI
    have e0 := (hV.keep 0 (by decide)).trans f0
    have e1 := (hV.keep 1 (by decide)).trans f1
    have e2 := (hV.keep 2 (by decide)).trans f2
    have e3 := (hV.keep 3 (by decide)).trans f3
    have hdep := deps o hdep0
    clear hdep0
    match i', ho with
    | 0, ho =>
      simp only [List.getElem?_toArray, List.getElem?_cons_zero, List.getElem?_cons_succ, Option.some.injEq] at ho
      subst ho
      have E2 := e2
      refine stp1 (v := .pointer (some ⟨g4, 0, none⟩)) (w' := W) (.tmp 2) _ rfl E2 (fun ρ hc hρ => by clear hV hK hA; first | (go_simp; done) | (go_simp; rfl)) ?_
      exact hK _ _ ⟨hs, hV.put (by show List.Nodup [0, 1, 2, 3, 4, 5, 6, 7, 8, 9, 10, 11, 12, 13, 14, 15, 16, 17, 18, 19]; decide) (by show List.Nodup [7, 8, 9, 10, 11, 12, 13, 14, 15, 16, 17, 18, 19, 20, 21, 22, 23, 24, 25, 6]; decide) 0 rfl (by decide) (by rw [hs]; decide), g, hA⟩
    | 1, ho =>
      simp only [List.getElem?_toArray, List.getElem?_cons_zero, List.getElem?_cons_succ, Option.some.injEq] at ho
      subst ho
      have E7 := hV.get 0 rfl (hdep 0 (by decide))
      have hcl := (hA.below.cell (World.block_lt_of_cell? _ _ h4)).trans h4
      refine stp1 (v := .slice (some ap) np cp) (w' := W) (.tmp 7) _ rfl E7 (fun ρ hc hρ => by clear hV hK hA; first | (go_simp; done) | (go_simp; rfl)) ?_
      exact hK _ _ ⟨hs, hV.put (by show List.Nodup [0, 1, 2, 3, 4, 5, 6, 7, 8, 9, 10, 11, 12, 13, 14, 15, 16, 17, 18, 19]; decide) (by show List.Nodup [7, 8, 9, 10, 11, 12, 13, 14, 15, 16, 17, 18, 19, 20, 21, 22, 23, 24, 25, 6]; decide) 1 rfl (by decide) (by rw [hs]; decide), g, hA⟩
    | 2, ho =>
      simp only [List.getElem?_toArray, List.getElem?_cons_zero, List.getElem?_cons_succ, Option.some.injEq] at ho
      subst ho
      have E0 := e0
      refine stp_move rfl (by first | exact .inl rfl | exact .inr rfl) ?_
      rw [E0]
      exact hK _ _ ⟨hs, hV.put (by show List.Nodup [0, 1, 2, 3, 4, 5, 6, 7, 8, 9, 10, 11, 12, 13, 14, 15, 16, 17, 18, 19]; decide) (by show List.Nodup [7, 8, 9, 10, 11, 12, 13, 14, 15, 16, 17, 18, 19, 20, 21, 22, 23, 24, 25, 6]; decide) 2 rfl (by decide) (by rw [hs]; decide), g, hA⟩
    | 3, ho =>
      simp only [List.getElem?_toArray, List.getElem?_cons_zero, List.getElem?_cons_succ, Option.some.injEq] at ho
      subst ho
      have E8 := hV.get 1 rfl (hdep 1 (by decide))
      have E9 := hV.get 2 rfl (hdep 2 (by decide))
      refine stp2 (v := .pointer (some (ap.add (i * 4)))) (w' := W) (.tmp 8) _ (.tmp 9) _ rfl E8 E9 (fun ρ hc hρ hρ2 => by clear hV hK hA; (first | (go_simp; done) | (go_simp; rfl))) ?_
      exact hK _ _ ⟨hs, hV.put (by show List.Nodup [0, 1, 2, 3, 4, 5, 6, 7, 8, 9, 10, 11, 12, 13, 14, 15, 16, 17, 18, 19]; decide) (by show List.Nodup [7, 8, 9, 10, 11, 12, 13, 14, 15, 16, 17, 18, 19, 20, 21, 22, 23, 24, 25, 6]; decide) 3 rfl (by decide) (by rw [hs]; decide), g, hA⟩
    | 4, ho =>
      simp only [List.getElem?_toArray, List.getElem?_cons_zero, List.getElem?_cons_succ, Option.some.injEq] at ho
      subst ho
      have E10 := hV.get 3 rfl (hdep 3 (by decide))
      refine stp_loadany (cs := p1.cells.toList) rfl rfl E10 (fun j v hj => (hA.below.cell (World.block_lt_of_cell? _ _ (hp1 j v hj))).trans (hp1 j v hj)) Try.underlying104 rfl (by kernel_rfl) ?_
      exact hK _ _ ⟨hs, hV.put (by show List.Nodup [0, 1, 2, 3, 4, 5, 6, 7, 8, 9, 10, 11, 12, 13, 14, 15, 16, 17, 18, 19]; decide) (by show List.Nodup [7, 8, 9, 10, 11, 12, 13, 14, 15, 16, 17, 18, 19, 20, 21, 22, 23, 24, 25, 6]; decide) 4 rfl (by decide) (by rw [hs]; decide), g, hA⟩
    | 5, ho =>
      simp only [List.getElem?_toArray, List.getElem?_cons_zero, List.getElem?_cons_succ, Option.some.injEq] at ho
      subst ho
      have E2 := e2
      refine stp1 (v := .pointer (some ⟨g4, 0, none⟩)) (w' := W) (.tmp 2) _ rfl E2 (fun ρ hc hρ => by clear hV hK hA; first | (go_simp; done) | (go_simp; rfl)) ?_
      exact hK _ _ ⟨hs, hV.put (by show List.Nodup [0, 1, 2, 3, 4, 5, 6, 7, 8, 9, 10, 11, 12, 13, 14, 15, 16, 17, 18, 19]; decide) (by show List.Nodup [7, 8, 9, 10, 11, 12, 13, 14, 15, 16, 17, 18, 19, 20, 21, 22, 23, 24, 25, 6]; decide) 5 rfl (by decide) (by rw [hs]; decide), g, hA⟩
    | 6, ho =>
      simp only [List.getElem?_toArray, List.getElem?_cons_zero, List.getElem?_cons_succ, Option.some.injEq] at ho
      subst ho
      have E12 := hV.get 5 rfl (hdep 5 (by decide))
      have hcl := (hA.below.cell (World.block_lt_of_cell? _ _ h4)).trans h4
      refine stp1 (v := .slice (some ap) np cp) (w' := W) (.tmp 12) _ rfl E12 (fun ρ hc hρ => by clear hV hK hA; first | (go_simp; done) | (go_simp; rfl)) ?_
      exact hK _ _ ⟨hs, hV.put (by show List.Nodup [0, 1, 2, 3, 4, 5, 6, 7, 8, 9, 10, 11, 12, 13, 14, 15, 16, 17, 18, 19]; decide) (by show List.Nodup [7, 8, 9, 10, 11, 12, 13, 14, 15, 16, 17, 18, 19, 20, 21, 22, 23, 24, 25, 6]; decide) 6 rfl (by decide) (by rw [hs]; decide), g, hA⟩
    | 7, ho =>
      simp only [List.getElem?_toArray, List.getElem?_cons_zero, List.getElem?_cons_succ, Option.some.injEq] at ho
      subst ho
      have E1 := e1
      refine stp_move rfl (by first | exact .inl rfl | exact .inr rfl) ?_
      rw [E1]
      exact hK _ _ ⟨hs, hV.put (by show List.Nodup [0, 1, 2, 3, 4, 5, 6, 7, 8, 9, 10, 11, 12, 13, 14, 15, 16, 17, 18, 19]; decide) (by show List.Nodup [7, 8, 9, 10, 11, 12, 13, 14, 15, 16, 17, 18, 19, 20, 21, 22, 23, 24, 25, 6]; decide) 7 rfl (by decide) (by rw [hs]; decide), g, hA⟩
    | 8, ho =>
      simp only [List.getElem?_toArray, List.getElem?_cons_zero, List.getElem?_cons_succ, Option.some.injEq] at ho
      subst ho
      have E13 := hV.get 6 rfl (hdep 6 (by decide))
      have E14 := hV.get 7 rfl (hdep 7 (by decide))
      refine stp2 (v := .pointer (some (ap.add (k * 4)))) (w' := W) (.tmp 13) _ (.tmp 14) _ rfl E13 E14 (fun ρ hc hρ hρ2 => by clear hV hK hA; (first | (go_simp; done) | (go_simp; rfl))) ?_
      exact hK _ _ ⟨hs, hV.put (by show List.Nodup [0, 1, 2, 3, 4, 5, 6, 7, 8, 9, 10, 11, 12, 13, 14, 15, 16, 17, 18, 19]; decide) (by show List.Nodup [7, 8, 9, 10, 11, 12, 13, 14, 15, 16, 17, 18, 19, 20, 21, 22, 23, 24, 25, 6]; decide) 8 rfl (by decide) (by rw [hs]; decide), g, hA⟩
    | 9, ho =>
      simp only [List.getElem?_toArray, List.getElem?_cons_zero, List.getElem?_cons_succ, Option.some.injEq] at ho
      subst ho
      have E15 := hV.get 8 rfl (hdep 8 (by decide))
      refine stp_loadany (cs := p2.cells.toList) rfl rfl E15 (fun j v hj => (hA.below.cell (World.block_lt_of_cell? _ _ (hp2 j v hj))).trans (hp2 j v hj)) Try.underlying104 rfl (by kernel_rfl) ?_
      exact hK _ _ ⟨hs, hV.put (by show List.Nodup [0, 1, 2, 3, 4, 5, 6, 7, 8, 9, 10, 11, 12, 13, 14, 15, 16, 17, 18, 19]; decide) (by show List.Nodup [7, 8, 9, 10, 11, 12, 13, 14, 15, 16, 17, 18, 19, 20, 21, 22, 23, 24, 25, 6]; decide) 9 rfl (by decide) (by rw [hs]; decide), g, hA⟩
    | 10, ho =>
      simp only [List.getElem?_toArray, List.getElem?_cons_zero, List.getElem?_cons_succ, Option.some.injEq] at ho
      subst ho
      have E3 := e3
      have hcl := (hA.below.cell (World.block_lt_of_cell? _ _ h5)).trans h5
      refine stp1 (v := .slice (some aq) nq cq) (w' := W) (.tmp 3) _ rfl E3 (fun ρ hc hρ => by clear hV hK hA; first | (go_simp; done) | (go_simp; rfl)) ?_
      exact hK _ _ ⟨hs, hV.put (by show List.Nodup [0, 1, 2, 3, 4, 5, 6, 7, 8, 9, 10, 11, 12, 13, 14, 15, 16, 17, 18, 19]; decide) (by show List.Nodup [7, 8, 9, 10, 11, 12, 13, 14, 15, 16, 17, 18, 19, 20, 21, 22, 23, 24, 25, 6]; decide) 10 rfl (by decide) (by rw [hs]; decide), g, hA⟩
    | 11, ho =>
      simp only [List.getElem?_toArray, List.getElem?_cons_zero, List.getElem?_cons_succ, Option.some.injEq] at ho
      subst ho
      have E0 := e0
      refine stp_move rfl (by first | exact .inl rfl | exact .inr rfl) ?_
      rw [E0]
      exact hK _ _ ⟨hs, hV.put (by show List.Nodup [0, 1, 2, 3, 4, 5, 6, 7, 8, 9, 10, 11, 12, 13, 14, 15, 16, 17, 18, 19]; decide) (by show List.Nodup [7, 8, 9, 10, 11, 12, 13, 14, 15, 16, 17, 18, 19, 20, 21, 22, 23, 24, 25, 6]; decide) 11 rfl (by decide) (by rw [hs]; decide), g, hA⟩
    | 12, ho =>
      simp only [List.getElem?_toArray, List.getElem?_cons_zero, List.getElem?_cons_succ, Option.some.injEq] at ho
      subst ho
      have E17 := hV.get 10 rfl (hdep 10 (by decide))
      have E18 := hV.get 11 rfl (hdep 11 (by decide))
      refine stp2 (v := .pointer (some (aq.add (i * 3)))) (w' := W) (.tmp 17) _ (.tmp 18) _ rfl E17 E18 (fun ρ hc hρ hρ2 => by clear hV hK hA; (first | (go_simp; done) | (go_simp; rfl))) ?_
      exact hK _ _ ⟨hs, hV.put (by show List.Nodup [0, 1, 2, 3, 4, 5, 6, 7, 8, 9, 10, 11, 12, 13, 14, 15, 16, 17, 18, 19]; decide) (by show List.Nodup [7, 8, 9, 10, 11, 12, 13, 14, 15, 16, 17, 18, 19, 20, 21, 22, 23, 24, 25, 6]; decide) 12 rfl (by decide) (by rw [hs]; decide), g, hA⟩
    | 13, ho =>
      simp only [List.getElem?_toArray, List.getElem?_cons_zero, List.getElem?_cons_succ, Option.some.injEq] at ho
      subst ho
      have E19 := hV.get 12 rfl (hdep 12 (by decide))
      refine stp_loadany (cs := q1.cells.toList) rfl rfl E19 (fun j v hj => (hA.below.cell (World.block_lt_of_cell? _ _ (hq1 j v hj))).trans (hq1 j v hj)) Try.underlying106 rfl (by kernel_rfl) ?_
      exact hK _ _ ⟨hs, hV.put (by show List.Nodup [0, 1, 2, 3, 4, 5, 6, 7, 8, 9, 10, 11, 12, 13, 14, 15, 16, 17, 18, 19]; decide) (by show List.Nodup [7, 8, 9, 10, 11, 12, 13, 14, 15, 16, 17, 18, 19, 20, 21, 22, 23, 24, 25, 6]; decide) 13 rfl (by decide) (by rw [hs]; decide), g, hA⟩
    | 14, ho =>
      simp only [List.getElem?_toArray, List.getElem?_cons_zero, List.getElem?_cons_succ, Option.some.injEq] at ho
      subst ho
      have E3 := e3
      have hcl := (hA.below.cell (World.block_lt_of_cell? _ _ h5)).trans h5
      refine stp1 (v := .slice (some aq) nq cq) (w' := W) (.tmp 3) _ rfl E3 (fun ρ hc hρ => by clear hV hK hA; first | (go_simp; done) | (go_simp; rfl)) ?_
      exact hK _ _ ⟨hs, hV.put (by show List.Nodup [0, 1, 2, 3, 4, 5, 6, 7, 8, 9, 10, 11, 12, 13, 14, 15, 16, 17, 18, 19]; decide) (by show List.Nodup [7, 8, 9, 10, 11, 12, 13, 14, 15, 16, 17, 18, 19, 20, 21, 22, 23, 24, 25, 6]; decide) 14 rfl (by decide) (by rw [hs]; decide), g, hA⟩
    | 15, ho =>
      simp only [List.getElem?_toArray, List.getElem?_cons_zero, List.getElem?_cons_succ, Option.some.injEq] at ho
      subst ho
      have E1 := e1
      refine stp_move rfl (by first | exact .inl rfl | exact .inr rfl) ?_
      rw [E1]
      exact hK _ _ ⟨hs, hV.put (by show List.Nodup [0, 1, 2, 3, 4, 5, 6, 7, 8, 9, 10, 11, 12, 13, 14, 15, 16, 17, 18, 19]; decide) (by show List.Nodup [7, 8, 9, 10, 11, 12, 13, 14, 15, 16, 17, 18, 19, 20, 21, 22, 23, 24, 25, 6]; decide) 15 rfl (by decide) (by rw [hs]; decide), g, hA⟩
    | 16, ho =>
      simp only [List.getElem?_toArray, List.getElem?_cons_zero, List.getElem?_cons_succ, Option.some.injEq] at ho
      subst ho
      have E21 := hV.get 14 rfl (hdep 14 (by decide))
      have E22 := hV.get 15 rfl (hdep 15 (by decide))
      refine stp2 (v := .pointer (some (aq.add (k * 3)))) (w' := W) (.tmp 21) _ (.tmp 22) _ rfl E21 E22 (fun ρ hc hρ hρ2 => by clear hV hK hA; (first | (go_simp; done) | (go_simp; rfl))) ?_
      exact hK _ _ ⟨hs, hV.put (by show List.Nodup [0, 1, 2, 3, 4, 5, 6, 7, 8, 9, 10, 11, 12, 13, 14, 15, 16, 17, 18, 19]; decide) (by show List.Nodup [7, 8, 9, 10, 11, 12, 13, 14, 15, 16, 17, 18, 19, 20, 21, 22, 23, 24, 25, 6]; decide) 16 rfl (by decide) (by rw [hs]; decide), g, hA⟩
    | 17, ho =>
      simp only [List.getElem?_toArray, List.getElem?_cons_zero, List.getElem?_cons_succ, Option.some.injEq] at ho
      subst ho
      have E23 := hV.get 16 rfl (hdep 16 (by decide))
      refine stp_loadany (cs := q2.cells.toList) rfl rfl E23 (fun j v hj => (hA.below.cell (World.block_lt_of_cell? _ _ (hq2 j v hj))).trans (hq2 j v hj)) Try.underlying106 rfl (by kernel_rfl) ?_
      exact hK _ _ ⟨hs, hV.put (by show List.Nodup [0, 1, 2, 3, 4, 5, 6, 7, 8, 9, 10, 11, 12, 13, 14, 15, 16, 17, 18, 19]; decide) (by show List.Nodup [7, 8, 9, 10, 11, 12, 13, 14, 15, 16, 17, 18, 19, 20, 21, 22, 23, 24, 25, 6]; decide) 17 rfl (by decide) (by rw [hs]; decide), g, hA⟩
    | 18, ho =>
      simp only [List.getElem?_toArray, List.getElem?_cons_zero, List.getElem?_cons_succ, Option.some.injEq] at ho
      subst ho
      have E11 := hV.get 4 rfl (hdep 4 (by decide))
      have E16 := hV.get 9 rfl (hdep 9 (by decide))
      have E20 := hV.get 13 rfl (hdep 13 (by decide))
      have E24 := hV.get 17 rfl (hdep 17 (by decide))
      refine stp_call rfl Try.func52 (by kernel_rfl) rfl rfl (args := #[.agg p1.cells, .agg p2.cells, .agg q1.cells, .agg q2.cells]) (by simp only [List.map_toArray, List.map_cons, List.map_nil, E11, E16, E20, E24] <;> rfl) ?_
      refine (hcall W).mono ?_
      rintro e w2 ⟨rfl, hb2⟩
      exact ⟨_, rfl, hK _ _ ⟨hs, hV.put (by show List.Nodup [0, 1, 2, 3, 4, 5, 6, 7, 8, 9, 10, 11, 12, 13, 14, 15, 16, 17, 18, 19]; decide) (by show List.Nodup [7, 8, 9, 10, 11, 12, 13, 14, 15, 16, 17, 18, 19, 20, 21, 22, 23, 24, 25, 6]; decide) 18 rfl (by decide) (by rw [hs]; decide), g, hA.val hb2⟩⟩
    | 19, ho =>
      simp only [List.getElem?_toArray, List.getElem?_cons_zero, List.getElem?_cons_succ, Option.some.injEq] at ho
      subst ho
      have E25 := hV.get 18 rfl (hdep 18 (by decide))
      refine stp_move rfl (by first | exact .inl rfl | exact .inr rfl) ?_
      rw [E25]
      exact hK _ _ ⟨hs, hV.put (by show List.Nodup [0, 1, 2, 3, 4, 5, 6, 7, 8, 9, 10, 11, 12, 13, 14, 15, 16, 17, 18, 19]; decide) (by show List.Nodup [7, 8, 9, 10, 11, 12, 13, 14, 15, 16, 17, 18, 19, 20, 21, 22, 23, 24, 25, 6]; decide) 19 rfl (by decide) (by rw [hs]; decide), g, hA⟩
    | i' + 20, ho => simp at ho
  · intro L a W hI hall
    obtain ⟨hs', hV, g, hA⟩ := hI
    have ha : a = setA a0 [(7, a.eval (.tmp 7)), (8, a.eval (.tmp 8)), (9, a.eval (.tmp 9)), (10, a.eval (.tmp 10)), (11, a.eval (.tmp 11)), (12, a.eval (.tmp 12)), (13, a.eval (.tmp 13)), (14, a.eval (.tmp 14)), (15, a.eval (.tmp 15)), (16, a.eval (.tmp 16)), (17, a.eval (.tmp 17)), (18, a.eval (.tmp 18)), (19, a.eval (.tmp 19)), (20, a.eval (.tmp 20)), (21, a.eval (.tmp 21)), (22, a.eval (.tmp 22)), (23, a.eval (.tmp 23)), (24, a.eval (.tmp 24)), (25, a.eval (.tmp 25)), (6, a.eval (.tmp 6))] := hV.act (fun k hk => by rw [hs]; simp at hk; omega)
    rw [hV.get 0 rfl (hall 0 (by decide))] at ha
    rw [hV.get 1 rfl (hall 1 (by decide))] at ha
    rw [hV.get 2 rfl (hall 2 (by decide))] at ha
    rw [hV.get 3 rfl (hall 3 (by decide))] at ha
    rw [hV.get 4 rfl (hall 4 (by decide))] at ha
    rw [hV.get 5 rfl (hall 5 (by decide))] at ha
    rw [hV.get 6 rfl (hall 6 (by decide))] at ha
    rw [hV.get 7 rfl (hall 7 (by decide))] at ha
    rw [hV.get 8 rfl (hall 8 (by decide))] at ha
    rw [hV.get 9 rfl (hall 9 (by decide))] at ha
    rw [hV.get 10 rfl (hall 10 (by decide))] at ha
    rw [hV.get 11 rfl (hall 11 (by decide))] at ha
    rw [hV.get 12 rfl (hall 12 (by decide))] at ha
    rw [hV.get 13 rfl (hall 13 (by decide))] at ha
    rw [hV.get 14 rfl (hall 14 (by decide))] at ha
    rw [hV.get 15 rfl (hall 15 (by decide))] at ha
    rw [hV.get 16 rfl (hall 16 (by decide))] at ha
    rw [hV.get 17 rfl (hall 17 (by decide))] at ha
    rw [hV.get 18 rfl (hall 18 (by decide))] at ha
    rw [hV.get 19 rfl (hall 19 (by decide))] at ha
    rw [ha]
    exact hQ W hA.bel
set_option maxHeartbeats 4000000 in
set_option maxRecDepth 100000 in
theorem ord4_reg (aq : Addr) (nq cq i k g5 : Nat) (s1 s2 r : Int) (hi2 : i < nq) (hj2 : (i : Int) < (nq : Int)) (hj0 : 0 ≤ (i : Int)) (hk2 : k < nq) (hl2 : (k : Int) < (nq : Int)) (hl0 : 0 ≤ (k : Int)) {Q : Exit → Act → World → Prop} (a0 : Act) (W0 : World) (hs : a0.tmps.size = 17) (hdf : a0.defers = []) (f0 : a0.eval (.tmp 0) = .int .i64 (i : Int)) (f1 : a0.eval (.tmp 1) = .int .i64 (k : Int)) (f2 : a0.eval (.tmp 2) = .pointer (some ⟨g5, 0, none⟩)) (h5 : W0.cell? ⟨g5, 0, none⟩ = some (.slice (some aq) nq cq)) (hs1 : W0.cell? ⟨(aq.add (i * 3)).block, (aq.add (i * 3)).off + 1, none⟩ = some (.int .i64 s1)) (hs2 : W0.cell? ⟨(aq.add (k * 3)).block, (aq.add (k * 3)).off + 1, none⟩ = some (.int .i64 s2)) (hcall : ∀ W, Calls Try.prog 126 #[.int .i64 s2, .int .i64 s1] W fun e w' => e = .returned (.int .i64 r) ∧ Bel W w') (hQ : ∀ W, Bel W0 W → Q .normal (setA a0 [(6, .slice (some aq) nq cq), (7, .int .i64 (k : Int)), (8, .pointer (some (aq.add (k * 3)))), (9, .pointer (some ⟨(aq.add (k * 3)).block, (aq.add (k * 3)).off + 1, none⟩)), (10, .int .i64 s2), (11, .slice (some aq) nq cq), (12, .int .i64 (i : Int)), (13, .pointer (some (aq.add (i * 3)))), (14, .pointer (some ⟨(aq.add (i * 3)).block, (aq.add (i * 3)).off + 1, none⟩)), (15, .int .i64 s1), (16, .int .i64 r), (5, .int .i64 r)]) W) : (Code.region 1 #[{ dst := some 6, op := Op.load 97 (Operand.tmp 2), type := 97, pos := "rank.go:62", after := #[], guard := none }, { dst := some 7, op := Op.move (Operand.tmp 1), type := 3, pos := "rank.go:62", after := #[], guard := none }, { dst := some 8, op := Op.indexAddr 97 (Operand.tmp 6) (Operand.tmp 7), type := 0, pos := "rank.go:62", after := #[{ on := 0, ground := Ground.data }, { on := 1, ground := Ground.data }], guard := none }, { dst := some 9, op := Op.fieldAddr 106 (Operand.tmp 8) 1, type := 0, pos := "rank.go:62", after := #[{ on := 2, ground := Ground.data }], guard := none }, { dst := some 10, op := Op.load 2 (Operand.tmp 9), type := 2, pos := "rank.go:62", after := #[{ on := 3, ground := Ground.data }], guard := none }, { dst := some 11, op := Op.load 97 (Operand.tmp 2), type := 97, pos := "rank.go:62", after := #[], guard := none }, { dst := some 12, op := Op.move (Operand.tmp 0), type := 3, pos := "rank.go:62", after := #[], guard := none }, { dst := some 13, op := Op.indexAddr 97 (Operand.tmp 11) (Operand.tmp 12), type := 0, pos := "rank.go:62", after := #[{ on := 5, ground := Ground.data }, { on := 6, ground := Ground.data }], guard := none }, { dst := some 14, op := Op.fieldAddr 106 (Operand.tmp 13) 1, type := 0, pos := "rank.go:62", after := #[{ on := 7, ground := Ground.data }], guard := none }, { dst := some 15, op := Op.load 2 (Operand.tmp 14), type := 2, pos := "rank.go:62", after := #[{ on := 8, ground := Ground.data }], guard := none }, { dst := some 16, op := Op.call { callee := Callee.value (Operand.func 126), args := #[Operand.tmp 10, Operand.tmp 15], argTypes := #[2, 2] }, type := 3, pos := "rank.go:62", after := #[{ on := 4, ground := Ground.data }, { on := 9, ground := Ground.data }], guard := none }, { dst := some 5, op := Op.assign (Operand.tmp 16), type := 3, pos := "rank.go:62", after := #[{ on := 10, ground := Ground.data }, { on := 10, ground := Ground.chain }, { on := 0, ground := Ground.phase }, { on := 1, ground := Ground.phase }, { on := 2, ground := Ground.phase }, { on := 3, ground := Ground.phase }, { on := 4, ground := Ground.phase }, { on := 5, ground := Ground.phase }, { on := 6, ground := Ground.phase }, { on := 7, ground := Ground.phase }, { on := 8, ground := Ground.phase }, { on := 9, ground := Ground.phase }, { on := 10, ground := Ground.phase }], guard := none }] true).wp Try.prog Q a0 W0 := by
  refine wp_region_inv_at (by kernel_rfl) (fun a0 L a W => a0.tmps.size = 17 ∧ VInv [(0, 6, .slice (some aq) nq cq), (1, 7, .int .i64 (k : Int)), (2, 8, .pointer (some (aq.add (k * 3)))), (3, 9, .pointer (some ⟨(aq.add (k * 3)).block, (aq.add (k * 3)).off + 1, none⟩)), (4, 10, .int .i64 s2), (5, 11, .slice (some aq) nq cq), (6, 12, .int .i64 (i : Int)), (7, 13, .pointer (some (aq.add (i * 3)))), (8, 14, .pointer (some ⟨(aq.add (i * 3)).block, (aq.add (i * 3)).off + 1, none⟩)), (9, 15, .int .i64 s1), (10, 16, .int .i64 r), (11, 5, .int .i64 r)] [6, 7, 8, 9, 10, 11, 12, 13, 14, 15, 16, 5] a0 L a ∧ ∃ g : Nat, AInvD W0 W) (by kernel_rfl) ⟨hs, VInv.start _ _ _, 0, AInvD.start (Bel.refl _).drew⟩ ?_ ?_
  · intro L i' o a W K hI ho hL hdep0 hK
    obtain ⟨hs, hV, g, hA⟩ := hI
    have e0 := (hV.keep 0 (by decide)).trans f0
    have e1 := (hV.keep 1 (by decide)).trans f1
    have e2 := (hV.keep 2 (by decide)).trans f2
    have hdep := deps o hdep0
    clear hdep0
    match i', ho with
    | 0, ho =>
      simp only [List.getElem?_toArray, List.getElem?_cons_zero, List.getElem?_cons_succ, Option.some.injEq] at ho
      subst ho
      have E2 := e2
      have hcl := (hA.below.cell (World.block_lt_of_cell? _ _ h5)).trans h5
      refine stp1 (v := .slice (some aq) nq cq) (w' := W) (.tmp 2) _ rfl E2 (fun ρ hc hρ => by clear hV hK hA; first | (go_simp; done) | (go_simp; rfl)) ?_
      exact hK _ _ ⟨hs, hV.put (by show List.Nodup [0, 1, 2, 3, 4, 5, 6, 7, 8, 9, 10, 11]; decide) (by show List.Nodup [6, 7, 8, 9, 10, 11, 12, 13, 14, 15, 16, 5]; decide) 0 rfl (by decide) (by rw [hs]; decide), g, hA⟩
    | 1, ho =>
      simp only [List.getElem?_toArray, List.getElem?_cons_zero, List.getElem?_cons_succ, Option.some.injEq] at ho
      subst ho
      have E1 := e1
      refine stp_move rfl (by first | exact .inl rfl | exact .inr rfl) ?_
      rw [E1]
      exact hK _ _ ⟨hs, hV.put (by show List.Nodup [0, 1, 2, 3, 4, 5, 6, 7, 8, 9, 10, 11]; decide) (by show List.Nodup [6, 7, 8, 9, 10, 11, 12, 13, 14, 15, 16, 5]; decide) 1 rfl (by decide) (by rw [hs]; decide), g, hA⟩
    | 2, ho =>
      simp only [List.getElem?_toArray, List.getElem?_cons_zero, List.getElem?_cons_succ, Option.some.injEq] at ho
      subst ho
      have E6 := hV.get 0 rfl (hdep 0 (by decide))
      have E7 := hV.get 1 rfl (hdep 1 (by decide))
      refine stp2 (v := .pointer (some (aq.add (k * 3)))) (w' := W) (.tmp 6) _ (.tmp 7) _ rfl E6 E7 (fun ρ hc hρ hρ2 => by clear hV hK hA; (first | (go_simp; done) | (go_simp; rfl))) ?_
      exact hK _ _ ⟨hs, hV.put (by show List.Nodup [0, 1, 2, 3, 4, 5, 6, 7, 8, 9, 10, 11]; decide) (by show List.Nodup [6, 7, 8, 9, 10, 11, 12, 13, 14, 15, 16, 5]; decide) 2 rfl (by decide) (by rw [hs]; decide), g, hA⟩
    | 3, ho =>
      simp only [List.getElem?_toArray, List.getElem?_cons_zero, List.getElem?_cons_succ, Option.some.injEq] at ho
      subst ho
      have E8 := hV.get 2 rfl (hdep 2 (by decide))
      refine stp1 (v := .pointer (some ⟨(aq.add (k * 3)).block, (aq.add (k * 3)).off + 1, none⟩)) (w' := W) (.tmp 8) _ rfl E8 (fun ρ hc hρ => by clear hV hK hA; first | (go_simp; done) | (go_simp; rfl)) ?_
      exact hK _ _ ⟨hs, hV.put (by show List.Nodup [0, 1, 2, 3, 4, 5, 6, 7, 8, 9, 10, 11]; decide) (by show List.Nodup [6, 7, 8, 9, 10, 11, 12, 13, 14, 15, 16, 5]; decide) 3 rfl (by decide) (by rw [hs]; decide), g, hA⟩
    | 4, ho =>
      simp only [List.getElem?_toArray, List.getElem?_cons_zero, List.getElem?_cons_succ, Option.some.injEq] at ho
      subst ho
      have E9 := hV.get 3 rfl (hdep 3 (by decide))
      have hcl := (hA.below.cell (World.block_lt_of_cell? _ _ hs2)).trans hs2
      refine stp1 (v := .int .i64 s2) (w' := W) (.tmp 9) _ rfl E9 (fun ρ hc hρ => by clear hV hK hA; first | (go_simp; done) | (go_simp; rfl)) ?_
      exact hK _ _ ⟨hs, hV.put (by show List.Nodup [0, 1, 2, 3, 4, 5, 6, 7, 8, 9, 10, 11]; decide) (by show List.Nodup [6, 7, 8, 9, 10, 11, 12, 13, 14, 15, 16, 5]; decide) 4 rfl (by decide) (by rw [hs]; decide), g, hA⟩
    | 5, ho =>
      simp only [List.getElem?_toArray, List.getElem?_cons_zero, List.getElem?_cons_succ, Option.some.injEq] at ho
      subst ho
      have E2 := e2
      have hcl := (hA.below.cell (World.block_lt_of_cell? _ _ h5)).trans h5
      refine stp1 (v := .slice (some aq) nq cq) (w' := W) (.tmp 2) _ rfl E2 (fun ρ hc hρ => by clear hV hK hA; first | (go_simp; done) | (go_simp; rfl)) ?_
      exact hK _ _ ⟨hs, hV.put (by show List.Nodup [0, 1, 2, 3, 4, 5, 6, 7, 8, 9, 10, 11]; decide) (by show List.Nodup [6, 7, 8, 9, 10, 11, 12, 13, 14, 15, 16, 5]; decide) 5 rfl (by decide) (by rw [hs]; decide), g, hA⟩
    | 6, ho =>
      simp only [List.getElem?_toArray, List.getElem?_cons_zero, List.getElem?_cons_succ, Option.some.injEq] at ho
      subst ho
      have E0 := e0
      refine stp_move rfl (by first | exact .inl rfl | exact .inr rfl) ?_
      rw [E0]
      exact hK _ _ ⟨hs, hV.put (by show List.Nodup [0, 1, 2, 3, 4, 5, 6, 7, 8, 9, 10, 11]; decide) (by show List.Nodup [6, 7, 8, 9, 10, 11, 12, 13, 14, 15, 16, 5]; decide) 6 rfl (by decide) (by rw [hs]; decide), g, hA⟩
    | 7, ho =>
      simp only [List.getElem?_toArray, List.getElem?_cons_zero, List.getElem?_cons_succ, Option.some.injEq] at ho
      subst ho
      have E11 := hV.get 5 rfl (hdep 5 (by decide))
      have E12 := hV.get 6 rfl (hdep 6 (by decide))
      refine stp2 (v := .pointer (some (aq.add (i * 3)))) (w' := W) (.tmp 11) _ (.tmp 12) _ rfl E11 E12 (fun ρ hc hρ hρ2 => by clear hV hK hA; (first | (go_simp; done) | (go_simp; rfl))) ?_
      exact hK _ _ ⟨hs, hV.put (by show List.Nodup [0, 1, 2, 3, 4, 5, 6, 7, 8, 9, 10, 11]; decide) (by show List.Nodup [6, 7, 8, 9, 10, 11, 12, 13, 14, 15, 16, 5]; decide) 7 rfl (by decide) (by rw [hs]; decide), g, hA⟩
    | 8, ho =>
      simp only [List.getElem?_toArray, List.getElem?_cons_zero, List.getElem?_cons_succ, Option.some.injEq] at ho
      subst ho
      have E13 := hV.get 7 rfl (hdep 7 (by decide))
      refine stp1 (v := .pointer (some ⟨(aq.add (i * 3)).block, (aq.add (i * 3)).off + 1, none⟩)) (w' := W) (.tmp 13) _ rfl E13 (fun ρ hc hρ => by clear hV hK hA; first | (go_simp; done) | (go_simp; rfl)) ?_
      exact hK _ _ ⟨hs, hV.put (by show List.Nodup [0, 1, 2, 3, 4, 5, 6, 7, 8, 9, 10, 11]; decide) (by show List.Nodup [6, 7, 8, 9, 10, 11, 12, 13, 14, 15, 16, 5]; decide) 8 rfl (by decide) (by rw [hs]; decide), g, hA⟩
    | 9, ho =>
      simp only [List.getElem?_toArray, List.getElem?_cons_zero, List.getElem?_cons_succ, Option.some.injEq] at ho
      subst ho
      have E14 := hV.get 8 rfl (hdep 8 (by decide))
      have hcl := (hA.below.cell (World.block_lt_of_cell? _ _ hs1)).trans hs1
      refine stp1 (v := .int .i64 s1) (w' := W) (.tmp 14) _ rfl E14 (fun ρ hc hρ => by clear hV hK hA; first | (go_simp; done) | (go_simp; rfl)) ?_
      exact hK _ _ ⟨hs, hV.put (by show List.Nodup [0, 1, 2, 3, 4, 5, 6, 7, 8, 9, 10, 11]; decide) (by show List.Nodup [6, 7, 8, 9, 10, 11, 12, 13, 14, 15, 16, 5]; decide) 9 rfl (by decide) (by rw [hs]; decide), g, hA⟩
    | 10, ho =>
      simp only [List.getElem?_toArray, List.getElem?_cons_zero, List.getElem?_cons_succ, Option.some.injEq] at ho
      subst ho
      have E10 := hV.get 4 rfl (hdep 4 (by decide))
      have E15 := hV.get 9 rfl (hdep 9 (by decide))
      refine stp_call rfl Try.func126 (by kernel_rfl) rfl rfl (args := #[.int .i64 s2, .int .i64 s1]) (by simp only [List.map_toArray, List.map_cons, List.map_nil, E10, E15] <;> rfl) ?_
      refine (hcall W).mono ?_
      rintro e w2 ⟨rfl, hb2⟩
      exact ⟨_, rfl, hK _ _ ⟨hs, hV.put (by show List.Nodup [0, 1, 2, 3, 4, 5, 6, 7, 8, 9, 10, 11]; decide) (by show List.Nodup [6, 7, 8, 9, 10, 11, 12, 13, 14, 15, 16, 5]; decide) 10 rfl (by decide) (by rw [hs]; decide), g, hA.val hb2⟩⟩
    | 11, ho =>
      simp only [List.getElem?_toArray, List.getElem?_cons_zero, List.getElem?_cons_succ, Option.some.injEq] at ho
      subst ho
      have E16 := hV.get 10 rfl (hdep 10 (by decide))
      refine stp_move rfl (by first | exact .inl rfl | exact .inr rfl) ?_
      rw [E16]
      exact hK _ _ ⟨hs, hV.put (by show List.Nodup [0, 1, 2, 3, 4, 5, 6, 7, 8, 9, 10, 11]; decide) (by show List.Nodup [6, 7, 8, 9, 10, 11, 12, 13, 14, 15, 16, 5]; decide) 11 rfl (by decide) (by rw [hs]; decide), g, hA⟩
    | i' + 12, ho => simp at ho
  · intro L a W hI hall
    obtain ⟨hs', hV, g, hA⟩ := hI
    have ha : a = setA a0 [(6, a.eval (.tmp 6)), (7, a.eval (.tmp 7)), (8, a.eval (.tmp 8)), (9, a.eval (.tmp 9)), (10, a.eval (.tmp 10)), (11, a.eval (.tmp 11)), (12, a.eval (.tmp 12)), (13, a.eval (.tmp 13)), (14, a.eval (.tmp 14)), (15, a.eval (.tmp 15)), (16, a.eval (.tmp 16)), (5, a.eval (.tmp 5))] := hV.act (fun k hk => by rw [hs]; simp at hk; omega)
    rw [hV.get 0 rfl (hall 0 (by decide))] at ha
    rw [hV.get 1 rfl (hall 1 (by decide))] at ha
    rw [hV.get 2 rfl (hall 2 (by decide))] at ha
    rw [hV.get 3 rfl (hall 3 (by decide))] at ha
    rw [hV.get 4 rfl (hall 4 (by decide))] at ha
    rw [hV.get 5 rfl (hall 5 (by decide))] at ha
    rw [hV.get 6 rfl (hall 6 (by decide))] at ha
    rw [hV.get 7 rfl (hall 7 (by decide))] at ha
    rw [hV.get 8 rfl (hall 8 (by decide))] at ha
    rw [hV.get 9 rfl (hall 9 (by decide))] at ha
    rw [hV.get 10 rfl (hall 10 (by decide))] at ha
    rw [hV.get 11 rfl (hall 11 (by decide))] at ha
    rw [ha]
    exact hQ W hA.bel
set_option maxHeartbeats 4000000 in
set_option maxRecDepth 100000 in
theorem ord5_reg (ap : Addr) (np cp i k g4 : Nat) (s1 s2 r : Int) (hi1 : i < np) (hj1 : (i : Int) < (np : Int)) (hj0 : 0 ≤ (i : Int)) (hk1 : k < np) (hl1 : (k : Int) < (np : Int)) (hl0 : 0 ≤ (k : Int)) {Q : Exit → Act → World → Prop} (a0 : Act) (W0 : World) (hs : a0.tmps.size = 19) (hdf : a0.defers = []) (f0 : a0.eval (.tmp 0) = .int .i64 (i : Int)) (f1 : a0.eval (.tmp 1) = .int .i64 (k : Int)) (f2 : a0.eval (.tmp 2) = .pointer (some ⟨g4, 0, none⟩)) (h4 : W0.cell? ⟨g4, 0, none⟩ = some (.slice (some ap) np cp)) (hs1 : W0.cell? ⟨(ap.add (i * 4)).block, (ap.add (i * 4)).off + 3, none⟩ = some (.int .i64 s1)) (hs2 : W0.cell? ⟨(ap.add (k * 4)).block, (ap.add (k * 4)).off + 3, none⟩ = some (.int .i64 s2)) (hcall : ∀ W, Calls Try.prog 126 #[.int .i64 s1, .int .i64 s2] W fun e w' => e = .returned (.int .i64 r) ∧ Bel W w') (hQ : ∀ W, Bel W0 W → Q .normal (setA a0 [(6, .pointer (some ⟨g4, 0, none⟩)), (7, .slice (some ap) np cp), (8, .int .i64 (i : Int)), (9, .pointer (some (ap.add (i * 4)))), (10, .pointer (some ⟨(ap.add (i * 4)).block, (ap.add (i * 4)).off + 3, none⟩)), (11, .int .i64 s1), (12, .pointer (some ⟨g4, 0, none⟩)), (13, .slice (some ap) np cp), (14, .int .i64 (k : Int)), (15, .pointer (some (ap.add (k * 4)))), (16, .pointer (some ⟨(ap.add (k * 4)).block, (ap.add (k * 4)).off + 3, none⟩)), (17, .int .i64 s2), (18, .int .i64 r), (5, .int .i64 r)]) W) : (Code.region 1 #[{ dst := some 6, op := Op.fieldAddr 41 (Operand.tmp 2) 0, type := 0, pos := "rank.go:65", after := #[], guard := none }, { dst := some 7, op := Op.load 37 (Operand.tmp 6), type := 37, pos := "rank.go:65", after := #[{ on := 0, ground := Ground.data }], guard := none }, { dst := some 8, op := Op.move (Operand.tmp 0), type := 3, pos := "rank.go:65", after := #[], guard := none }, { dst := some 9, op := Op.indexAddr 37 (Operand.tmp 7) (Operand.tmp 8), type := 0, pos := "rank.go:65", after := #[{ on := 1, ground := Ground.data }, { on := 2, ground := Ground.data }], guard := none }, { dst := some 10, op := Op.fieldAddr 104 (Operand.tmp 9) 3, type := 0, pos := "rank.go:65", after := #[{ on := 3, ground := Ground.data }], guard := none }, { dst := some 11, op := Op.load 2 (Operand.tmp 10), type := 2, pos := "rank.go:65", after := #[{ on := 4, ground := Ground.data }], guard := none }, { dst := some 12, op := Op.fieldAddr 41 (Operand.tmp 2) 0, type := 0, pos := "rank.go:65", after := #[], guard := none }, { dst := some 13, op := Op.load 37 (Operand.tmp 12), type := 37, pos := "rank.go:65", after := #[{ on := 6, ground := Ground.data }], guard := none }, { dst := some 14, op := Op.move (Operand.tmp 1), type := 3, pos := "rank.go:65", after := #[], guard := none }, { dst := some 15, op := Op.indexAddr 37 (Operand.tmp 13) (Operand.tmp 14), type := 0, pos := "rank.go:65", after := #[{ on := 7, ground := Ground.data }, { on := 8, ground := Ground.data }], guard := none }, { dst := some 16, op := Op.fieldAddr 104 (Operand.tmp 15) 3, type := 0, pos := "rank.go:65", after := #[{ on := 9, ground := Ground.data }], guard := none }, { dst := some 17, op := Op.load 2 (Operand.tmp 16), type := 2, pos := "rank.go:65", after := #[{ on := 10, ground := Ground.data }], guard := none }, { dst := some 18, op := Op.call { callee := Callee.value (Operand.func 126), args := #[Operand.tmp 11, Operand.tmp 17], argTypes := #[2, 2] }, type := 3, pos := "rank.go:65", after := #[{ on := 5, ground := Ground.data }, { on := 11, ground := Ground.data }], guard := none }, { dst := some 5, op := Op.assign (Operand.tmp 18), type := 3, pos := "rank.go:65", after := #[{ on := 12, ground := Ground.data }, { on := 12, ground := Ground.chain }, { on := 0, ground := Ground.phase }, { on := 1, ground := Ground.phase }, { on := 2, ground := Ground.phase }, { on := 3, ground := Ground.phase }, { on := 4, ground := Ground.phase }, { on := 5, ground := Ground.phase }, { on := 6, ground := Ground.phase }, { on := 7, ground := Ground.phase }, { on := 8, ground := Ground.phase }, { on := 9, ground := Ground.phase }, { on := 10, ground := Ground.phase }, { on := 11, ground := Ground.phase }, { on := 12, ground := Ground.phase }], guard := none }] true).wp Try.prog Q a0 W0 := by
  refine wp_region_inv_at (by kernel_rfl) (fun a0 L a W => a0.tmps.size = 19 ∧ VInv [(0, 6, .pointer (some ⟨g4, 0, none⟩)), (1, 7, .slice (some ap) np cp), (2, 8, .int .i64 (i : Int)), (3, 9, .pointer (some (ap.add (i * 4)))), (4, 10, .pointer (some ⟨(ap.add (i * 4)).block, (ap.add (i * 4)).off + 3, none⟩)), (5, 11, .int .i64 s1), (6, 12, .pointer (some ⟨g4, 0, none⟩)), (7, 13, .slice (some ap) np cp), (8, 14, .int .i64 (k : Int)), (9, 15, .pointer (some (ap.add (k * 4)))), (10, 16, .pointer (some ⟨(ap.add (k * 4)).block, (ap.add (k * 4)).off + 3, none⟩)), (11, 17, .int .i64 s2), (12, 18, .int .i64 r), (13, 5, .int .i64 r)] [6, 7, 8, 9, 10, 11, 12, 13, 14, 15, 16, 17, 18, 5] a0 L a ∧ ∃ g : Nat, AInvD W0 W) (by kernel_rfl) ⟨hs, VInv.start _ _ _, 0, AInvD.start (Bel.refl _).drew⟩ ?_ ?_
  · intro L i' o a W K hI ho hL hdep0 hK
    obtain ⟨hs, hV, g, hA⟩ := hI
    have e0 := (hV.keep 0 (by decide)).trans f0
    have e1 := (hV.keep 1 (by decide)).trans f1
    have e2 := (hV.keep 2 (by decide)).trans f2
    have hdep := deps o hdep0
    clear hdep0
    match i', ho with
    | 0, ho =>
      simp only [List.getElem?_toArray, List.getElem?_cons_zero, List.getElem?_cons_succ, Option.some.injEq] at ho
      subst ho
      have E2 := e2
      refine stp1 (v := .pointer (some ⟨g4, 0, none⟩)) (w' := W) (.tmp 2) _ rfl E2 (fun ρ hc hρ => by clear hV hK hA; first | (go_simp; done) | (go_simp; rfl)) ?_
      exact hK _ _ ⟨hs, hV.put (by show List.Nodup [0, 1, 2, 3, 4, 5, 6, 7, 8, 9, 10, 11, 12, 13]; decide) (by show List.Nodup [6, 7, 8, 9, 10, 11, 12, 13, 14, 15, 16, 17, 18, 5]; decide) 0 rfl (by decide) (by rw [hs]; decide), g, hA⟩
    | 1, ho =>
      simp only [List.getElem?_toArray, List.getElem?_cons_zero, List.getElem?_cons_succ, Option.some.injEq] at ho
      subst ho
      have E6 := hV.get 0 rfl (hdep 0 (by decide))
      have hcl := (hA.below.cell (World.block_lt_of_cell? _ _ h4)).trans h4
      refine stp1 (v := .slice (some ap) np cp) (w' := W) (.tmp 6) _ rfl E6 (fun ρ hc hρ => by clear hV hK hA; first | (go_simp; done) | (go_simp; rfl)) ?_
      exact hK _ _ ⟨hs, hV.put (by show List.Nodup [0, 1, 2, 3, 4, 5, 6, 7, 8, 9, 10, 11, 12, 13]; decide) (by show List.Nodup [6, 7, 8, 9, 10, 11, 12, 13, 14, 15, 16, 17, 18, 5]; decide) 1 rfl (by decide) (by rw [hs]; decide), g, hA⟩
    | 2, ho =>
      simp only [List.getElem?_toArray, List.getElem?_cons_zero, List.getElem?_cons_succ, Option.some.injEq] at ho
      subst ho
      have E0 := e0
      refine stp_move rfl (by first | exact .inl rfl | exact .inr rfl) ?_
      rw [E0]
      exact hK _ _ ⟨hs, hV.put (by show List.Nodup [0, 1, 2, 3, 4, 5, 6, 7, 8, 9, 10, 11, 12, 13]; decide) (by show List.Nodup [6, 7, 8, 9, 10, 11, 12, 13, 14, 15, 16, 17, 18, 5]; decide) 2 rfl (by decide) (by rw [hs]; decide), g, hA⟩
    | 3, ho =>
      simp only [List.getElem?_toArray, List.getElem?_cons_zero, List.getElem?_cons_succ, Option.some.injEq] at ho
      subst ho
      have E7 := hV.get 1 rfl (hdep 1 (by decide))
      have E8 := hV.get 2 rfl (hdep 2 (by decide))
      refine stp2 (v := .pointer (some (ap.add (i * 4)))) (w' := W) (.tmp 7) _ (.tmp 8) _ rfl E7 E8 (fun ρ hc hρ hρ2 => by clear hV hK hA; (first | (go_simp; done) | (go_simp; rfl))) ?_
      exact hK _ _ ⟨hs, hV.put (by show List.Nodup [0, 1, 2, 3, 4, 5, 6, 7, 8, 9, 10, 11, 12, 13]; decide) (by show List.Nodup [6, 7, 8, 9, 10, 11, 12, 13, 14, 15, 16, 17, 18, 5]; decide) 3 rfl (by decide) (by rw [hs]; decide), g, hA⟩
    | 4, ho =>
      simp only [List.getElem?_toArray, List.getElem?_cons_zero, List.getElem?_cons_succ, Option.some.injEq] at ho
      subst ho
      have E9 := hV.get 3 rfl (hdep 3 (by decide))
      refine stp1 (v := .pointer (some ⟨(ap.add (i * 4)).block, (ap.add (i * 4)).off + 3, none⟩)) (w' := W) (.tmp 9) _ rfl E9 (fun ρ hc hρ => by clear hV hK hA; first | (go_simp; done) | (go_simp; rfl)) ?_
      exact hK _ _ ⟨hs, hV.put (by show List.Nodup [0, 1, 2, 3, 4, 5, 6, 7, 8, 9, 10, 11, 12, 13]; decide) (by show List.Nodup [6, 7, 8, 9, 10, 11, 12, 13, 14, 15, 16, 17, 18, 5]; decide) 4 rfl (by decide) (by rw [hs]; decide), g, hA⟩
    | 5, ho =>
      simp only [List.getElem?_toArray, List.getElem?_cons_zero, List.getElem?_cons_succ, Option.some.injEq] at ho
      subst ho
      have E10 := hV.get 4 rfl (hdep 4 (by decide))
      have hcl := (hA.below.cell (World.block_lt_of_cell? _ _ hs1)).trans hs1
      refine stp1 (v := .int .i64 s1) (w' := W) (.tmp 10) _ rfl E10 (fun ρ hc hρ => by clear hV hK hA; first | (go_simp; done) | (go_simp; rfl)) ?_
      exact hK _ _ ⟨hs, hV.put (by show List.Nodup [0, 1, 2, 3, 4, 5, 6, 7, 8, 9, 10, 11, 12, 13]; decide) (by show List.Nodup [6, 7, 8, 9, 10, 11, 12, 13, 14, 15, 16, 17, 18, 5]; decide) 5 rfl (by decide) (by rw [hs]; decide), g, hA⟩
    | 6, ho =>
      simp only [List.getElem?_toArray, List.getElem?_cons_zero, List.getElem?_cons_succ, Option.some.injEq] at ho
      subst ho
      have E2 := e2
      refine stp1 (v := .pointer (some ⟨g4, 0, none⟩)) (w' := W) (.tmp 2) _ rfl E2 (fun ρ hc hρ => by clear hV hK hA; first | (go_simp; done) | (go_simp; rfl)) ?_
      exact hK _ _ ⟨hs, hV.put (by show List.Nodup [0, 1, 2, 3, 4, 5, 6, 7, 8, 9, 10, 11, 12, 13]; decide) (by show List.Nodup [6, 7, 8, 9, 10, 11, 12, 13, 14, 15, 16, 17, 18, 5]; decide) 6 rfl (by decide) (by rw [hs]; decide), g, hA⟩
    | 7, ho =>
      simp only [List.getElem?_toArray, List.getElem?_cons_zero, List.getElem?_cons_succ, Option.some.injEq] at ho
      subst ho
      have E12 := hV.get 6 rfl (hdep 6 (by decide))
      have hcl := (hA.below.cell (World.block_lt_of_cell? _ _ h4)).trans h4
      refine stp1 (v := .slice (some ap) np cp) (w' := W) (.tmp 12) _ rfl E12 (fun ρ hc hρ => by clear hV hK hA; first | (go_simp; done) | (go_simp; rfl)) ?_
      exact hK _ _ ⟨hs, hV.put (by show List.Nodup [0, 1, 2, 3, 4, 5, 6, 7, 8, 9, 10, 11, 12, 13]; decide) (by show List.Nodup [6, 7, 8, 9, 10, 11, 12, 13, 14, 15, 16, 17, 18, 5]; decide) 7 rfl (by decide) (by rw [hs]; decide), g, hA⟩
    | 8, ho =>
      simp only [List.getElem?_toArray, List.getElem?_cons_zero, List.getElem?_cons_succ, Option.some.injEq] at ho
      subst ho
      have E1 := e1
      refine stp_move rfl (by first | exact .inl rfl | exact .inr rfl) ?_
      rw [E1]
      exact hK _ _ ⟨hs, hV.put (by show List.Nodup [0, 1, 2, 3, 4, 5, 6, 7, 8, 9, 10, 11, 12, 13]; decide) (by show List.Nodup [6, 7, 8, 9, 10, 11, 12, 13, 14, 15, 16, 17, 18, 5]; decide) 8 rfl (by decide) (by rw [hs]; decide), g, hA⟩
    | 9, ho =>
      simp only [List.getElem?_toArray, List.getElem?_cons_zero, List.getElem?_cons_succ, Option.some.injEq] at ho
      subst ho
      have E13 := hV.get 7 rfl (hdep 7 (by decide))
      have E14 := hV.get 8 rfl (hdep 8 (by decide))
      refine stp2 (v := .pointer (some (ap.add (k * 4)))) (w' := W) (.tmp 13) _ (.tmp 14) _ rfl E13 E14 (fun ρ hc hρ hρ2 => by clear hV hK hA; (first | (go_simp; done) | (go_simp; rfl))) ?_
      exact hK _ _ ⟨hs, hV.put (by show List.Nodup [0, 1, 2, 3, 4, 5, 6, 7, 8, 9, 10, 11, 12, 13]; decide) (by show List.Nodup [6, 7, 8, 9, 10, 11, 12, 13, 14, 15, 16, 17, 18, 5]; decide) 9 rfl (by decide) (by rw [hs]; decide), g, hA⟩
    | 10, ho =>
      simp only [List.getElem?_toArray, List.getElem?_cons_zero, List.getElem?_cons_succ, Option.some.injEq] at ho
      subst ho
      have E15 := hV.get 9 rfl (hdep 9 (by decide))
      refine stp1 (v := .pointer (some ⟨(ap.add (k * 4)).block, (ap.add (k * 4)).off + 3, none⟩)) (w' := W) (.tmp 15) _ rfl E15 (fun ρ hc hρ => by clear hV hK hA; first | (go_simp; done) | (go_simp; rfl)) ?_
      exact hK _ _ ⟨hs, hV.put (by show List.Nodup [0, 1, 2, 3, 4, 5, 6, 7, 8, 9, 10, 11, 12, 13]; decide) (by show List.Nodup [6, 7, 8, 9, 10, 11, 12, 13, 14, 15, 16, 17, 18, 5]; decide) 10 rfl (by decide) (by rw [hs]; decide), g, hA⟩
    | 11, ho =>
      simp only [List.getElem?_toArray, List.getElem?_cons_zero, List.getElem?_cons_succ, Option.some.injEq] at ho
      subst ho
      have E16 := hV.get 10 rfl (hdep 10 (by decide))
      have hcl := (hA.below.cell (World.block_lt_of_cell? _ _ hs2)).trans hs2
      refine stp1 (v := .int .i64 s2) (w' := W) (.tmp 16) _ rfl E16 (fun ρ hc hρ => by clear hV hK hA; first | (go_simp; done) | (go_simp; rfl)) ?_
      exact hK _ _ ⟨hs, hV.put (by show List.Nodup [0, 1, 2, 3, 4, 5, 6, 7, 8, 9, 10, 11, 12, 13]; decide) (by show List.Nodup [6, 7, 8, 9, 10, 11, 12, 13, 14, 15, 16, 17, 18, 5]; decide) 11 rfl (by decide) (by rw [hs]; decide), g, hA⟩
    | 12, ho =>
      simp only [List.getElem?_toArray, List.getElem?_cons_zero, List.getElem?_cons_succ, Option.some.injEq] at ho
      subst ho
      have E11 := hV.get 5 rfl (hdep 5 (by decide))
      have E17 := hV.get 11 rfl (hdep 11 (by decide))
      refine stp_call rfl Try.func126 (by kernel_rfl) rfl rfl (args := #[.int .i64 s1, .int .i64 s2]) (by simp only [List.map_toArray, List.map_cons, List.map_nil, E11, E17] <;> rfl) ?_
      refine (hcall W).mono ?_
      rintro e w2 ⟨rfl, hb2⟩
      exact ⟨_, rfl, hK _ _ ⟨hs, hV.put (by show List.Nodup [0, 1, 2, 3, 4, 5, 6, 7, 8, 9, 10, 11, 12, 13]; decide) (by show List.Nodup [6, 7, 8, 9, 10, 11, 12, 13, 14, 15, 16, 17, 18, 5]; decide) 12 rfl (by decide) (by rw [hs]; decide), g, hA.val hb2⟩⟩
    | 13, ho =>
      simp only [List.getElem?_toArray, List.getElem?_cons_zero, List.getElem?_cons_succ, Option.some.injEq] at ho
      subst ho
      have E18 := hV.get 12 rfl (hdep 12 (by decide))
      refine stp_move rfl (by first | exact .inl rfl | exact .inr rfl) ?_
      rw [E18]
      exact hK _ _ ⟨hs, hV.put (by show List.Nodup [0, 1, 2, 3, 4, 5, 6, 7, 8, 9, 10, 11, 12, 13]; decide) (by show List.Nodup [6, 7, 8, 9, 10, 11, 12, 13, 14, 15, 16, 17, 18, 5]; decide) 13 rfl (by decide) (by rw [hs]; decide), g, hA⟩
    | i' + 14, ho => simp at ho
  · intro L a W hI hall
    obtain ⟨hs', hV, g, hA⟩ := hI
    have ha : a = setA a0 [(6, a.eval (.tmp 6)), (7, a.eval (.tmp 7)), (8, a.eval (.tmp 8)), (9, a.eval (.tmp 9)), (10, a.eval (.tmp 10)), (11, a.eval (.tmp 11)), (12, a.eval (.tmp 12)), (13, a.eval (.tmp 13)), (14, a.eval (.tmp 14)), (15, a.eval (.tmp 15)), (16, a.eval (.tmp 16)), (17, a.eval (.tmp 17)), (18, a.eval (.tmp 18)), (5, a.eval (.tmp 5))] := hV.act (fun k hk => by rw [hs]; simp at hk; omega)
    rw [hV.get 0 rfl (hall 0 (by decide))] at ha
    rw [hV.get 1 rfl (hall 1 (by decide))] at ha
    rw [hV.get 2 rfl (hall 2 (by decide))] at ha
    rw [hV.get 3 rfl (hall 3 (by decide))] at ha
    rw [hV.get 4 rfl (hall 4 (by decide))] at ha
    rw [hV.get 5 rfl (hall 5 (by decide))] at ha
    rw [hV.get 6 rfl (hall 6 (by decide))] at ha
    rw [hV.get 7 rfl (hall 7 (by decide))] at ha
    rw [hV.get 8 rfl (hall 8 (by decide))] at ha
    rw [hV.get 9 rfl (hall 9 (by decide))] at ha
    rw [hV.get 10 rfl (hall 10 (by decide))] at ha
    rw [hV.get 11 rfl (hall 11 (by decide))] at ha
    rw [hV.get 12 rfl (hall 12 (by decide))] at ha
    rw [hV.get 13 rfl (hall 13 (by decide))] at ha
    rw [ha]
    exact hQ W hA.bel
theorem add_f (ad : Addr) (m j : Nat) (hj : 0 < j) : (ad.add m).add j = ⟨(ad.add m).block, (ad.add m).off + j, none⟩ := by
  unfold Addr.add
  by_cases h : m = 0
  · subst h
    have : ¬ j = 0 := by omega
    simp [this]
  · have : ¬ j = 0 := by omega
    simp [this, h]
theorem cmpJ_below (x y : Int) (W : World) : Calls Try.prog 126 #[.int .i64 x, .int .i64 y] W fun e w' => e = .returned (.int .i64 (cmpI x y)) ∧ Bel W w' := (cmpJ_calls x y W).mono fun _ _ h => ⟨h.1, by rw [← h.2]; exact Bel.refl _⟩
section
variable {g4 g5 : Nat} {Ap Aq : Option Addr} {cp cq : Nat} {ps : List PoolV} {qs : List QuoteV} {w : World}
set_option maxHeartbeats 2000000 in
set_option maxRecDepth 100000 in
theorem price_ord (h : MemR w g4 g5 Ap Aq cp cq ps qs) : OrdW Try.prog 124 #[.pointer (some ⟨g4, 0, none⟩), .pointer (some ⟨g5, 0, none⟩)] (priceC ps qs) (InP ps qs) w := by
  rintro W i k hi hk hW
  have hM := h.later hW
  clear h hW
  obtain ⟨i, rfl⟩ : ∃ m : Nat, i = m := ⟨i.toNat, by have := hi.1; omega⟩
  obtain ⟨k, rfl⟩ : ∃ m : Nat, k = m := ⟨k.toNat, by have := hk.1; omega⟩
  obtain ⟨i0, i1, i2⟩ := hi
  obtain ⟨k0, k1, k2⟩ := hk
  obtain ⟨ap, ea, c1⟩ := loadPool hM.hp i (by omega)
  obtain ⟨ap', ea', c2⟩ := loadPool hM.hp k (by omega)
  rw [ea] at ea'
  obtain rfl := Option.some.inj ea'
  obtain ⟨aq, eb, d1⟩ := loadQuote hM.hq i (by omega)
  obtain ⟨aq', eb', d2⟩ := loadQuote hM.hq k (by omega)
  rw [eb] at eb'
  obtain rfl := Option.some.inj eb'
  have h4 := hM.b4
  have h5 := hM.b5
  rw [ea] at h4
  rw [eb] at h5
  unfold priceC pAt qAt
  rw [Int.toNat_natCast, Int.toNat_natCast]
  obtain ⟨p1, e1⟩ : ∃ p, ps.getD i zPool = p := ⟨_, rfl⟩
  obtain ⟨p2, e2⟩ : ∃ p, ps.getD k zPool = p := ⟨_, rfl⟩
  obtain ⟨q1, e3⟩ : ∃ p, qs.getD i zQuote = p := ⟨_, rfl⟩
  obtain ⟨q2, e4⟩ : ∃ p, qs.getD k zQuote = p := ⟨_, rfl⟩
  rw [e1] at c1 ⊢
  rw [e2] at c2 ⊢
  rw [e3] at d1 ⊢
  rw [e4] at d2 ⊢
  obtain ⟨np, hnp⟩ : ∃ n, ps.length = n := ⟨_, rfl⟩
  obtain ⟨nq, hnq⟩ : ∃ n, qs.length = n := ⟨_, rfl⟩
  rw [hnp] at h4 i1 k1
  rw [hnq] at h5 i2 k2
  have KC := Lib.hid (fun W => cheaper_calls p1 p2 q1 q2 W)
  obtain ⟨r, hr⟩ : ∃ r, cheaperI p1 p2 q1 q2 = r := ⟨_, rfl⟩
  rw [hr] at KC ⊢
  have H4 := Lib.hid h4
  have H5 := Lib.hid h5
  have C1 := Lib.hid c1
  have C2 := Lib.hid c2
  have D1 := Lib.hid d1
  have D2 := Lib.hid d2
  clear hr e1 e2 e3 e4 c1 c2 d1 d2 h4 h5 ea eb hM ea' eb' hnp hnq
  simp only [List.push_toArray, List.append_toArray, List.cons_append, List.nil_append]
  go_enter Try.func124, Try.ntmps124
  go_upto_region 1 with fail
  refine ord3_reg ap aq np cp nq cq i k g4 g5 p1 p2 q1 q2 r (by omega) (by omega) (by omega) (by omega) (by omega) (by omega) (by omega) (by omega) (by omega) (by omega) _ _ rfl rfl rfl rfl rfl rfl H4.out H5.out C1.out C2.out D1.out D2.out KC.out ?_
  intro W2 hb
  simp only [put_none_, setA, List.foldl_cons, List.foldl_nil, List.setIfInBounds_toArray, List.set_cons_succ, List.set_cons_zero]
  have HB := Lib.hid hb
  clear hb
  go_wp2_with fail
  go_ret
  exact ⟨rfl, HB.out⟩
set_option maxHeartbeats 2000000 in
set_option maxRecDepth 100000 in
theorem score_ord (h : MemR w g4 g5 Ap Aq cp cq ps qs) : OrdW Try.prog 125 #[.pointer (some ⟨g5, 0, none⟩)] (scoreC qs) (InP ps qs) w := by
  rintro W i k hi hk hW
  have hM := h.later hW
  clear h hW
  obtain ⟨i, rfl⟩ : ∃ m : Nat, i = m := ⟨i.toNat, by have := hi.1; omega⟩
  obtain ⟨k, rfl⟩ : ∃ m : Nat, k = m := ⟨k.toNat, by have := hk.1; omega⟩
  obtain ⟨i0, i1, i2⟩ := hi
  obtain ⟨k0, k1, k2⟩ := hk
  obtain ⟨aq, eb, d1⟩ := loadQuote hM.hq i (by omega)
  obtain ⟨aq', eb', d2⟩ := loadQuote hM.hq k (by omega)
  rw [eb] at eb'
  obtain rfl := Option.some.inj eb'
  have h5 := hM.b5
  rw [eb] at h5
  unfold scoreC qAt
  rw [Int.toNat_natCast, Int.toNat_natCast]
  have s1 := d1 1 _ rfl
  have s2 := d2 1 _ rfl
  rw [add_f _ _ _ (by omega)] at s1 s2
  obtain ⟨a1, e1⟩ : ∃ p, (qs.getD i zQuote).score = p := ⟨_, rfl⟩
  obtain ⟨a2, e2⟩ : ∃ p, (qs.getD k zQuote).score = p := ⟨_, rfl⟩
  rw [e1] at s1 ⊢
  rw [e2] at s2 ⊢
  obtain ⟨nq, hnq⟩ : ∃ n, qs.length = n := ⟨_, rfl⟩
  rw [hnq] at h5 i2 k2
  have KC := Lib.hid (fun W => cmpJ_below a2 a1 W)
  obtain ⟨r, hr⟩ : ∃ r, cmpI a2 a1 = r := ⟨_, rfl⟩
  rw [hr] at KC ⊢
  have H5 := Lib.hid h5
  have C1 := Lib.hid s1
  have C2 := Lib.hid s2
  clear hr e1 e2 s1 s2 d1 d2 h5 eb hM eb' hnq
  simp only [List.push_toArray, List.append_toArray, List.cons_append, List.nil_append]
  go_enter Try.func125, Try.ntmps125
  go_upto_region 1 with fail
  refine ord4_reg aq nq cq i k g5 a1 a2 r (by omega) (by omega) (by omega) (by omega) (by omega) (by omega) _ _ rfl rfl rfl rfl rfl H5.out C1.out C2.out KC.out ?_
  intro W2 hb
  simp only [put_none_, setA, List.foldl_cons, List.foldl_nil, List.setIfInBounds_toArray, List.set_cons_succ, List.set_cons_zero]
  have HB := Lib.hid hb
  clear hb
  go_wp2_with fail
  go_ret
  exact ⟨rfl, HB.out⟩
set_option maxHeartbeats 2000000 in
set_option maxRecDepth 100000 in
theorem prio_ord (h : MemR w g4 g5 Ap Aq cp cq ps qs) : OrdW Try.prog 129 #[.pointer (some ⟨g4, 0, none⟩)] (prioC ps) (InP ps qs) w := by
  rintro W i k hi hk hW
  have hM := h.later hW
  clear h hW
  obtain ⟨i, rfl⟩ : ∃ m : Nat, i = m := ⟨i.toNat, by have := hi.1; omega⟩
  obtain ⟨k, rfl⟩ : ∃ m : Nat, k = m := ⟨k.toNat, by have := hk.1; omega⟩
  obtain ⟨i0, i1, i2⟩ := hi
  obtain ⟨k0, k1, k2⟩ := hk
  obtain ⟨ap, eb, d1⟩ := loadPool hM.hp i (by omega)
  obtain ⟨ap', eb', d2⟩ := loadPool hM.hp k (by omega)
  rw [eb] at eb'
  obtain rfl := Option.some.inj eb'
  have h4 := hM.b4
  rw [eb] at h4
  unfold prioC pAt
  rw [Int.toNat_natCast, Int.toNat_natCast]
  have s1 := d1 3 _ rfl
  have s2 := d2 3 _ rfl
  rw [add_f _ _ _ (by omega)] at s1 s2
  obtain ⟨a1, e1⟩ : ∃ p, (ps.getD i zPool).prio = p := ⟨_, rfl⟩
  obtain ⟨a2, e2⟩ : ∃ p, (ps.getD k zPool).prio = p := ⟨_, rfl⟩
  rw [e1] at s1 ⊢
  rw [e2] at s2 ⊢
  obtain ⟨np, hnp⟩ : ∃ n, ps.length = n := ⟨_, rfl⟩
  rw [hnp] at h4 i1 k1
  have KC := Lib.hid (fun W => cmpJ_below a1 a2 W)
  obtain ⟨r, hr⟩ : ∃ r, cmpI a1 a2 = r := ⟨_, rfl⟩
  rw [hr] at KC ⊢
  have H4 := Lib.hid h4
  have C1 := Lib.hid s1
  have C2 := Lib.hid s2
  clear hr e1 e2 s1 s2 d1 d2 h4 eb hM eb' hnp
  simp only [List.push_toArray, List.append_toArray, List.cons_append, List.nil_append]
  go_enter Try.func129, Try.ntmps129
  go_upto_region 1 with fail
  refine ord5_reg ap np cp i k g4 a1 a2 r (by omega) (by omega) (by omega) (by omega) (by omega) (by omega) _ _ rfl rfl rfl rfl rfl H4.out C1.out C2.out KC.out ?_
  intro W2 hb
  simp only [put_none_, setA, List.foldl_cons, List.foldl_nil, List.setIfInBounds_toArray, List.set_cons_succ, List.set_cons_zero]
  have HB := Lib.hid hb
  clear hb
  go_wp2_with fail
  go_ret
  exact ⟨rfl, HB.out⟩
end
end Go.Proofs.Ytaoflcmjmhfblaa.R
/- rank: the predicate on prices, first, the sum of places. -/
namespace Go.Proofs.Ytaoflcmjmhfblaa.R
open Go.RowKit Go.Proofs.YtaoflcmjmhfblaaW.PrintWords Go.Proofs.YtaoflcmjmhfblaaW.PrintLast Go.Proofs.YtaoflcmjmhfblaaW.PrintMore Go.Proofs.Ytaoflcmjmhfblaa.H Go.Shelf
set_option linter.unusedVariables false
set_option linter.unusedSimpArgs false
theorem add_zeroA (a : Addr) : a.add 0 = a := by simp [Addr.add]
def dear (qs : List QuoteV) (i : Int) : Bool := decide (1073741824 < (qAt qs i).price)
section
variable {g4 g5 : Nat} {Ap Aq : Option Addr} {cp cq : Nat} {ps : List PoolV} {qs : List QuoteV} {w : World}
set_option maxHeartbeats 2000000 in
theorem dear_pred (h : MemR w g4 g5 Ap Aq cp cq ps qs) : PredR Try.prog 123 #[.pointer (some ⟨g5, 0, none⟩)] encI (dear qs) (InP ps qs) w := by
  rintro W i hi hW
  have hM := h.later hW
  clear h hW
  obtain ⟨i, rfl⟩ : ∃ m : Nat, i = m := ⟨i.toNat, by have := hi.1; omega⟩
  obtain ⟨i0, i1, i2⟩ := hi
  obtain ⟨aq, eb, d1⟩ := loadQuote hM.hq i (by omega)
  have h5 := hM.b5
  rw [eb] at h5
  unfold dear qAt encI
  rw [Int.toNat_natCast]
  have s1 := d1 0 _ rfl
  rw [add_zeroA] at s1
  obtain ⟨a1, e1⟩ : ∃ p, (qs.getD i zQuote).price = p := ⟨_, rfl⟩
  rw [e1] at s1 ⊢
  obtain ⟨nq, hnq⟩ : ∃ n, qs.length = n := ⟨_, rfl⟩
  rw [hnq] at h5 i2
  clear e1 d1 eb hM hnq i1
  simp only [List.push_toArray, List.append_toArray, List.cons_append, List.nil_append]
  go_enter Try.func123, Try.ntmps123
  go_wp2_with fail
  go_ret
  exact ⟨rfl, Below.refl _ _⟩
end
/-- An order, as a function value. -/
structure OrdF where
  g : Nat
  cap : Array Value
  cf : Int → Int → Int
def firstC : List OrdF → Int → Int → Int
  | [], i, k => cmpI i k
  | f :: r, i, k => if f.cf i k = 0 then firstC r i k else f.cf i k
theorem firstC_skip : ∀ (fs : List OrdF) (j : Nat) (i k : Int), j ≤ fs.length → (∀ m, m < j → ∀ f, fs[m]? = some f → f.cf i k = 0) → firstC fs i k = firstC (fs.drop j) i k
  | fs, 0, i, k, _, _ => rfl
  | [], j + 1, i, k, h, _ => by simp at h
  | f :: r, j + 1, i, k, h, hz => by
    rw [List.drop_succ_cons, ← firstC_skip r j i k (by simpa using h) (fun m hm g hg => hz (m + 1) (by omega) g (by simpa using hg))]
    show (if f.cf i k = 0 then firstC r i k else f.cf i k) = _
    rw [if_pos (hz 0 (by omega) f rfl)]
structure OrdsW (P : Program) (fs : List OrdF) (S : Int → Prop) (gb B : Nat) (c : Nat) (w : World) : Prop where
  box : w.cell? ⟨gb, 0, none⟩ = some (.slice (some ⟨B, 0, none⟩) fs.length c)
  cells : ∀ j f, fs[j]? = some f → w.cell? ⟨B, j, none⟩ = some (.func (.func f.g) #[] f.cap)
  eg : ∀ f ∈ fs, ∀ args w, (callFunc f.g args).run P w = .ok (.enter f.g args) w
  ord : ∀ f ∈ fs, OrdW P f.g f.cap f.cf S w
  len : fs.length < 1000
theorem OrdsW.later {P : Program} {fs : List OrdF} {S : Int → Prop} {gb B c : Nat} {w w1 : World} (h : OrdsW P fs S gb B c w) (hb : Below w.heap.size w w1) : OrdsW P fs S gb B c w1 :=
  ⟨(hb.cell (World.block_lt_of_cell? _ _ h.box)).trans h.box, fun j f hf => (hb.cell (World.block_lt_of_cell? _ _ (h.cells j f hf))).trans (h.cells j f hf), h.eg, fun f hf => (h.ord f hf).later hb, h.len⟩
set_option maxHeartbeats 4000000 in
set_option maxRecDepth 100000 in
theorem first_ord {fs : List OrdF} {S : Int → Prop} {gb B c : Nat} {w : World} (h : OrdsW Try.prog fs S gb B c w) : OrdW Try.prog 161 #[.pointer (some ⟨gb, 0, none⟩)] (firstC fs) S w := by
  rintro W i k hi hk hW
  have hM := h.later hW
  clear h hW
  have hl := hM.len
  have hbox := hM.box
  obtain ⟨n, hn⟩ : ∃ n, fs.length = n := ⟨_, rfl⟩
  rw [hn] at hbox hl
  have HM := Lib.hid hM
  have HN := Lib.hid hn
  clear hM hn
  have KI := Lib.hid (fun W => cmpI_calls i k W)
  simp only [List.push_toArray, List.append_toArray, List.cons_append, List.nil_append]
  go_enter Try.func161, Try.ntmps161
  go_wp2_with fail
  go_loopw [11] (fun v11 wr => ∃ j : Nat, j ≤ n ∧ v11 = .int .i64 j ∧ Hid (∀ m, m < j → ∀ f, fs[m]? = some f → f.cf i k = 0) ∧ Hid (Bel W wr)) (fun v11 _ => n - (intOf v11).toNat)
  case atStart => exact ⟨0, Nat.zero_le _, rfl, Lib.hid (fun m hm => absurd hm (Nat.not_lt_zero _)), Lib.hid (Bel.refl _)⟩
  case round =>
    clear hbox
    obtain ⟨j, hj, rfl, HZ, HB⟩ := hrel
    by_cases hlt : j < n
    · have hlt' : j < fs.length := by rw [HN.out]; exact hlt
      obtain ⟨f, hf⟩ : ∃ f, fs[j]? = some f := ⟨_, List.getElem?_eq_getElem hlt'⟩
      have hM2 := HM.out.later HB.out.1
      have hc := hM2.cells j f hf
      have hcall := hM2.ord f (List.mem_of_getElem? hf) wr i k hi hk (Below.refl _ _)
      have eg := hM2.eg f (List.mem_of_getElem? hf)
      obtain ⟨g, hg⟩ : ∃ g, f.g = g := ⟨_, rfl⟩
      obtain ⟨cap, hcap⟩ : ∃ c, f.cap = c := ⟨_, rfl⟩
      obtain ⟨r, hr⟩ : ∃ r, f.cf i k = r := ⟨_, rfl⟩
      rw [hg, hcap] at hc hcall
      rw [hg] at eg
      rw [hr] at hcall
      have HK := Lib.hid hcall
      have HF := Lib.hid hf
      have HR := Lib.hid hr
      clear hM2 hcall hf hg hcap hr
      by_cases hz : r = 0
      · subst hz
        go_wp2_with (first | (go_at_fn g; refine HK.out.mono ?_; rintro e w' ⟨rfl, hb'⟩; have HB' := Lib.hid (HB.out.trans hb'); clear hb'))
        exact ⟨⟨j + 1, by omega, by go_num, Lib.hid (fun m hm f' hf' => by
          by_cases e : m = j
          · subst e
            rw [HF.out] at hf'
            obtain rfl := Option.some.inj hf'
            exact HR.out
          · exact HZ.out m (by omega) f' hf'), HB'⟩, by simp only [intOf]; omega⟩
      · have hz2 : (r == 0) = false := by simpa using hz
        have hz3 : (r != 0) = true := by simpa using hz
        go_wp2_with (first | (go_at_fn g; refine HK.out.mono ?_; rintro e w' ⟨rfl, hb'⟩; have HB' := Lib.hid (HB.out.trans hb'); clear hb'))
        go_ret
        refine ⟨ret_i ?_, HB'.out⟩
        rw [firstC_skip fs j i k (by omega) HZ.out, List.drop_eq_getElem_cons hlt']
        have e : fs[j] = f := by have := HF.out; rw [List.getElem?_eq_getElem hlt'] at this; exact Option.some.inj this
        rw [e]
        show r = (if f.cf i k = 0 then firstC (fs.drop (j + 1)) i k else f.cf i k)
        rw [HR.out, if_neg hz]
    · have : j = n := by omega
      subst this
      go_wp2_with (first | (go_at_call 132; refine (KI.out _).mono ?_; rintro e w' ⟨rfl, rfl⟩))
      go_ret
      refine ⟨ret_i ?_, HB.out⟩
      rw [firstC_skip fs fs.length i k (Nat.le_refl _) (by rw [HN.out]; exact HZ.out), List.drop_length]
      rfl
end Go.Proofs.Ytaoflcmjmhfblaa.R
/- rank: first (the call), places, the sum of places. -/
namespace Go.Proofs.Ytaoflcmjmhfblaa.R
open Go.RowKit Go.Proofs.YtaoflcmjmhfblaaW.PrintWords Go.Proofs.YtaoflcmjmhfblaaW.PrintLast Go.Proofs.YtaoflcmjmhfblaaW.PrintMore Go.Proofs.Ytaoflcmjmhfblaa.H Go.Shelf
set_option linter.unusedVariables false
set_option linter.unusedSimpArgs false
theorem wpList_updateR {P : Program} {ops : Array Oper} {rest : List Oper} {o : Oper} {a : Act} {w : World} {Q : Exit → Act → World → Prop} (hgd : o.guard = none) (m x y : Operand) (t kt vt : TypeId) (hop : o.op = .mapUpdate t m x y)
    {κ ν : Type} [DecidableEq κ] {encK : κ → Value} {encV : ν → Value} (K : KeyOk P kt encK) (ht : P.underlying t = some (.map kt vt)) {B : Nat} {l : List (κ × ν)} (h : MapR encK encV w B l) (k : κ) (v : ν) (hm : a.eval m = .map (some B)) (hx : a.eval x = encK k) (hy : a.eval y = encV v)
    (hh : ∀ w', MapR encK encV w' B (setL l k v) → w.grownBy w' (some B) → wpList P ops Q rest (a.put o.dst undef) w') : wpList P ops Q (o :: rest) a w :=
  wpList_plain hgd fun _ hK => by
    obtain ⟨w', hr, hm', hg⟩ := h.update K ht k v
    unfold Oper.wp execOp
    simp only [hop, hm, hx, hy, Sem.run_bind, Sem.run_pure, hr, Result.andThen_ok]
    exact hK _ _ (hh w' hm' hg)
theorem keyInt : KeyOk Try.prog 3 (Value.int .i64) where
  eq w a b := by
    show (Op.equalIn (9998 + 2) _ _ _).run _ _ = _
    generalize 9998 = d
    simp only [Op.equalIn]
    go_simp
    by_cases h : a = b <;> simp [h]
  check w em a := by
    obtain ⟨m, hm⟩ : ∃ m, 10000 = m + 2 := ⟨9998, rfl⟩
    rw [hm]
    clear hm
    simp only [Instr.checkKey]
    go_simp
  now := ⟨_, Try.underlying3, by first | exact .inr (fun a b => rfl) | exact .inl (fun a b => rfl)⟩
  stays a := by simp [Instr.sameBits]
/-- Where each place of a list stands: as the map that rank.places makes. -/
def plL (l : List Int) : Nat → List (Int × Int)
  | 0 => []
  | j + 1 => setL (plL l j) (l.getD j 0) (j : Int)
set_option maxHeartbeats 2000000 in
set_option maxRecDepth 100000 in
theorem places_calls (A : Option Addr) (c : Nat) (l : List Int) (w : World) (h : Kd.C (Kd.int .i64) w A l.length l) :
    Calls Try.prog 130 #[.slice A l.length c] w fun e w' => ∃ B, e = .returned (.map (some B)) ∧ MapR (Value.int .i64) (Value.int .i64) w' B (plL l l.length) ∧ w.heap.size ≤ B ∧ Below w.heap.size w w' := by
  have hm := Kd.C_max h
  obtain ⟨n, hn⟩ : ∃ n, l.length = n := ⟨_, rfl⟩
  rw [hn] at h hm ⊢
  have H := Lib.hid h
  have hmm := @run_makeMap Try.prog
  have HM0 := Lib.hid (MapR.made (encK := Value.int .i64) (encV := Value.int .i64) w)
  have HB0 := Lib.hid ((Below.refl w.heap.size w).alloc (Nat.le_refl _) (.map #[] 0))
  clear h hn
  go_enter Try.func130, Try.ntmps130
  go_wp2
  clear hmm
  go_loopw [9] (fun v9 wr => ∃ i : Nat, i ≤ n ∧ v9 = .int .i64 i ∧ Hid (MapR (Value.int .i64) (Value.int .i64) wr w.heap.size (plL l i)) ∧ Hid (Below w.heap.size w wr)) (fun v9 _ => n - (intOf v9).toNat)
  case atStart => exact ⟨0, Nat.zero_le _, rfl, HM0, HB0⟩
  case round =>
    clear HM0 HB0
    obtain ⟨i, hi, rfl, HM, HB⟩ := hrel
    by_cases hlt : i < n
    · obtain ⟨ad, ea, hc⟩ := loadInt (Kd.C_below H.out HB.out) i hlt
      subst ea
      obtain ⟨y, hy⟩ : ∃ y, l.getD i 0 = y := ⟨_, rfl⟩
      rw [hy] at hc
      have HY := Lib.hid hy
      clear hy
      go_wp2_with (first | (refine wpList_updateR rfl _ _ _ 188 3 3 rfl keyInt Try.underlying188 HM.out y (i : Int) rfl rfl rfl ?_; intro w2 hm2 hg2; have HM2 := Lib.hid hm2; have HB2 := Lib.hid (HB.out.grown hg2 HB.out.size (fun k e => by cases e; exact Nat.le_refl _)); clear hm2 hg2))
      all_goals first
        | (exfalso; omega)
        | exact ⟨⟨i + 1, by omega, by go_num, Lib.hid (by show MapR _ _ _ _ (setL (plL l i) (l.getD i 0) (i : Int)); rw [HY.out]; exact HM2.out), HB2⟩, by simp only [intOf]; omega⟩
    · have : i = n := by omega
      subst this
      go_wp2
      go_ret
      exact ⟨_, rfl, HM.out, Nat.le_refl _, HB.out⟩
set_option maxHeartbeats 1000000 in
theorem first_calls (A : Option Addr) (n c : Nat) (w : World) : Calls Try.prog 128 #[.slice A n c] w fun e w' => e = .returned (.func (.func 161) #[] #[.pointer (some ⟨w.heap.size, 0, none⟩)]) ∧ w' = w.alloc (.cells #[.slice A n c] 217 (0, 0)) := by
  go_enter Try.func128, Try.ntmps128
  go_wp2
  go_ret
  exact ⟨rfl, rfl⟩
/-- The sum of two maps' places, of two keys. -/
def sumC (m1 m2 : List (Int × Int)) (i k : Int) : Int := cmpI ((lookL m1 i).getD 0 + (lookL m2 i).getD 0) ((lookL m1 k).getD 0 + (lookL m2 k).getD 0)
structure SmallM (m : List (Int × Int)) : Prop where
  low : ∀ k, 0 ≤ (lookL m k).getD 0
  high : ∀ k, (lookL m k).getD 0 ≤ 4611686018427387903
theorem zeroIntR (w : World) : (zeroValue 3).run Try.prog w = .ok (.int .i64 0) w := by kernel_rfl
set_option maxHeartbeats 2000000 in
set_option maxRecDepth 100000 in
theorem sum_ord {m1 m2 : List (Int × Int)} {g1 g2 B1 B2 : Nat} {w : World} (h1 : w.cell? ⟨g1, 0, none⟩ = some (.map (some B1))) (h2 : w.cell? ⟨g2, 0, none⟩ = some (.map (some B2))) (hm1 : MapR (Value.int .i64) (Value.int .i64) w B1 m1) (hm2 : MapR (Value.int .i64) (Value.int .i64) w B2 m2) (s1 : SmallM m1) (s2 : SmallM m2) (S : Int → Prop) :
    OrdW Try.prog 131 #[.pointer (some ⟨g1, 0, none⟩), .pointer (some ⟨g2, 0, none⟩)] (sumC m1 m2) S w := by
  rintro W i k hi hk hW
  have q1 := (hW.cell (World.block_lt_of_cell? _ _ h1)).trans h1
  have q2 := (hW.cell (World.block_lt_of_cell? _ _ h2)).trans h2
  have M1 := Lib.hid (hm1.later hW)
  have M2 := Lib.hid (hm2.later hW)
  have a0 := s1.low i
  have a1 := s1.high i
  have b0 := s2.low i
  have b1 := s2.high i
  have c0 := s1.low k
  have c1 := s1.high k
  have d0 := s2.low k
  have d1 := s2.high k
  clear h1 h2 hm1 hm2 s1 s2 hW
  unfold sumC
  obtain ⟨a, ha⟩ : ∃ a, (lookL m1 i).getD 0 = a := ⟨_, rfl⟩
  obtain ⟨b, hb⟩ : ∃ a, (lookL m2 i).getD 0 = a := ⟨_, rfl⟩
  obtain ⟨c, hc⟩ : ∃ a, (lookL m1 k).getD 0 = a := ⟨_, rfl⟩
  obtain ⟨d, hd⟩ : ∃ a, (lookL m2 k).getD 0 = a := ⟨_, rfl⟩
  rw [ha] at a0 a1 ⊢
  rw [hb] at b0 b1 ⊢
  rw [hc] at c0 c1 ⊢
  rw [hd] at d0 d1 ⊢
  have HA := Lib.hid ha
  have HB := Lib.hid hb
  have HC := Lib.hid hc
  have HD := Lib.hid hd
  clear ha hb hc hd
  have KC := Lib.hid (fun W => cmpI_calls (a + b) (c + d) W)
  obtain ⟨r, hr⟩ : ∃ r, cmpI (a + b) (c + d) = r := ⟨_, rfl⟩
  rw [hr] at KC ⊢
  clear hr
  simp only [List.push_toArray, List.append_toArray, List.cons_append, List.nil_append]
  go_enter Try.func131, Try.ntmps131
  go_wp2_with (first
    | (refine wpList_lookI rfl _ _ 188 3 3 rfl keyInt Try.underlying188 zeroIntR M1.out i rfl rfl a HA.out ?_)
    | (refine wpList_lookI rfl _ _ 188 3 3 rfl keyInt Try.underlying188 zeroIntR M2.out i rfl rfl b HB.out ?_)
    | (refine wpList_lookI rfl _ _ 188 3 3 rfl keyInt Try.underlying188 zeroIntR M1.out k rfl rfl c HC.out ?_)
    | (refine wpList_lookI rfl _ _ 188 3 3 rfl keyInt Try.underlying188 zeroIntR M2.out k rfl rfl d HD.out ?_)
    | (go_at_call 132; refine (KC.out _).mono ?_; rintro e w' ⟨rfl, rfl⟩))
  go_ret
  exact ⟨rfl, Bel.refl _⟩
end Go.Proofs.Ytaoflcmjmhfblaa.R
/- rank.sorted: a copy of the places, sorted stably by an order. -/
namespace Go.Proofs.Ytaoflcmjmhfblaa.R
open Go.RowKit Go.Proofs.YtaoflcmjmhfblaaW.PrintWords Go.Proofs.YtaoflcmjmhfblaaW.PrintLast Go.Proofs.YtaoflcmjmhfblaaW.PrintMore Go.Proofs.Ytaoflcmjmhfblaa.H Go.Shelf Go.Sort
set_option linter.unusedVariables false
set_option linter.unusedSimpArgs false
theorem kmInt {ok : Nat → Prop} {w w' : World} {base : Nat} {x : Int} {cs : List Value} (h : (Kd.int .i64).K w' x cs) : (Kd.int .i64).M w base ok x cs := h
set_option maxHeartbeats 2000000 in
set_option maxRecDepth 100000 in
theorem cloneInt (A : Option Addr) (c : Nat) (l : List Int) (w : World) (h : Kd.C (Kd.int .i64) w A l.length l) (hl : l.length * 8 ≤ 140737488355328) :
    Calls Try.prog 159 #[.slice A l.length c] w fun e w' => ∃ v0_ : Value, e = .returned v0_ ∧ Kd.R (Kd.int .i64) 3 w' w.heap.size (fun _ => True) v0_ l ∧ Below w.heap.size w w' := by
  have H := Lib.hid h
  have HL := Lib.hid hl
  have hnil := fun (W : World) (a : Option Addr) (n c : Nat) => Lib.run_eql_slice_nil (P := Try.prog) W 99 3 a n c 0 0 Try.underlying99
  rcases A with _ | ad
  · have h0 : l = [] := by
      rcases Nat.eq_zero_or_pos l.length with h | h
      · exact List.eq_nil_of_length_eq_zero h
      · obtain ⟨_, e, _⟩ := H.out.2.2 h; cases e
    subst h0
    clear h hl
    go_enter Try.func159, Try.ntmps159
    go_wp2_with (fail)
    all_goals first | (exfalso; omega) | (go_ret; exact ⟨_, rfl, Kd.R_nil _ _ _ _ _, Below.refl _ _⟩)
  · obtain ⟨n, hn⟩ : ∃ n, l.length = n := ⟨_, rfl⟩
    rw [hn] at H HL ⊢
    have hbel := (Below.refl w.heap.size w).alloc (Nat.le_refl _) (.cells #[] 3 (0, 0))
    have hro : Kd.R (Kd.int .i64) 3 (w.alloc (.cells #[] 3 (0, 0))) w.heap.size (fun _ => True) (.slice (some ⟨w.heap.size, 0, none⟩) 0 0) ([] : List Int) :=
      ⟨fun _ _ => trivial, [], ⟨rfl, .inr ⟨w.heap.size, 0, #[], rfl, Nat.le_refl _, heap_alloc_new _ _, Nat.le_refl _, by unfold maxLen; omega, rfl, rfl⟩⟩, Reps.none _ _⟩
    have hrd := Kd.C_below H.out hbel
    have HBE := Lib.hid hbel
    have HRO := Lib.hid hro
    have HRD := Lib.hid hrd
    have HN := Lib.hid hn
    clear h hn hl hbel hro hrd
    go_enter Try.func159, Try.ntmps159
    go_wp2_with (first
      | (at_builtin; refine Kd.R_append_rows (Kd.int .i64) (w0 := w) (Rr := fun x cs => (Kd.int .i64).K (w.alloc (.cells #[] 3 (0, 0))) x cs) w.heap.size rfl _ _ 99 3 (.int .i64 0) 8 rfl Try.underlying99 infoInt rfl (by decide) (by decide) _ ([] : List Int) l (some ad) n c (fun _ => True) (fun _ => False) rfl rfl HRO.out HRD.out (fun x cs h => kmInt h) (fun _ h => h.elim) (fun _ _ => trivial) HBE.out (by simp) (by simpa using HL.out) ?_; intro v1 w1 ho hb hg hat; have HO := Lib.hid ho; have HB := Lib.hid hb; clear ho hb hg hat))
    all_goals first | (exfalso; omega) | (go_ret; exact ⟨_, rfl, HO.out, HB.out⟩)
theorem C_cellsR {α : Type} {enc : α → Value} {h1 : ∀ x, (enc x).oneCell' = true} (W : World) (g n : Nat) (l : List α) (hn : l.length = n) (hm : n ≤ 9223372036854775807) (h : ∀ j p, l[j]? = some p → W.cell? ⟨g, j, none⟩ = some (enc p)) : Kd.C (Kd.scalar enc h1) W (some ⟨g, 0, none⟩) n l := by
  refine ⟨hn, hm, fun _ => ⟨_, rfl, fun j p hj => ⟨[enc p], rfl, rfl, fun i u hu => ?_⟩⟩⟩
  have hi : i = 0 := by
    cases i with
    | zero => rfl
    | succ i => cases hu
  subst hi
  obtain rfl : enc p = u := Option.some.inj hu
  have e : (({ block := g, off := 0, spot := none } : Addr).add (j * 1 + 0)) = ⟨g, j, none⟩ := by
    unfold Addr.add
    by_cases h : j = 0 <;> simp [h]
  show W.cell? (({ block := g, off := 0, spot := none } : Addr).add (j * 1 + 0)) = _
  rw [e]
  exact h j p hj
/-- L is l in the order cf. -/
def SortedL (cf : Int → Int → Int) (l L : List Int) : Prop := L.Perm l ∧ ∀ i j, i < j → j < L.length → cf (L.getD i 0) (L.getD j 0) ≤ 0
/-- cf is an order of the elements of l. -/
structure OrdOn (cf : Int → Int → Int) (l : List Int) : Prop where
  neg : ∀ x ∈ l, ∀ y ∈ l, cf y x = -cf x y
  trans : ∀ x ∈ l, ∀ y ∈ l, ∀ z ∈ l, cf x y ≤ 0 → cf y z ≤ 0 → cf x z ≤ 0 ∧ (cf x y < 0 → cf x z < 0)
def idA (n : Nat) : Array (Fin (n + 1)) := Array.ofFn fun i => i
theorem idA_size (n : Nat) : (idA n).size = n + 1 := by simp [idA]
theorem idA_get (n k : Nat) (h : k < n + 1) : (idA n)[k]! = ⟨k, h⟩ := by
  rw [getElem!_pos (idA n) k (by rw [idA_size]; exact h)]
  simp [idA]
theorem idA_val (n k : Nat) (h : k < n + 1) : ((idA n)[k]!).val = k := by rw [idA_get n k h]
theorem idA_list (n : Nat) : (idA n).toList.map (fun i => i.val) = List.range (n + 1) := by
  apply List.ext_getElem
  · simp [idA]
  · intro i h1 h2
    rw [List.getElem_map, List.getElem_range, Array.getElem_toList]
    have hi : i < n + 1 := by simpa using h2
    have e := idA_val n i hi
    rw [getElem!_pos (idA n) i (by rw [idA_size]; exact hi)] at e
    exact e
def eL (l : List Int) (j : Nat) : Int := l.getD j 0
def cfL (cf : Int → Int → Int) (l : List Int) (n : Nat) : Fin (n + 1) → Fin (n + 1) → Int := fun x y => cf (eL l x.val) (eL l y.val)
theorem eL_mem {l : List Int} {n : Nat} (hl : l.length = n + 1) (x : Fin (n + 1)) : eL l x.val ∈ l := by
  unfold eL
  rw [List.getD_eq_getElem?_getD, List.getElem?_eq_getElem (by rw [hl]; exact x.isLt)]
  exact List.getElem_mem _
theorem cfL_ok {cf : Int → Int → Int} {l : List Int} {n : Nat} (hl : l.length = n + 1) (h : OrdOn cf l) : CfOk (cfL cf l n) :=
  ⟨fun x y => h.neg _ (eL_mem hl x) _ (eL_mem hl y), fun x y z => h.trans _ (eL_mem hl x) _ (eL_mem hl y) _ (eL_mem hl z)⟩
/-- The list that an array of places tells. -/
def listA (l : List Int) {n : Nat} (d : Array (Fin (n + 1))) : List Int := d.toList.map (fun i => eL l i.val)
theorem listA_len (l : List Int) {n : Nat} (d : Array (Fin (n + 1))) : (listA l d).length = d.size := by simp [listA]
theorem listA_get (l : List Int) {n : Nat} (d : Array (Fin (n + 1))) (i : Nat) (h : i < d.size) : (listA l d)[i]? = some (eL l (d[i]!).val) := by
  rw [getElem!_pos d i h]
  simp [listA, h]
theorem sortedL_of {cf : Int → Int → Int} {l : List Int} {n : Nat} (hl : l.length = n + 1) {d : Array (Fin (n + 1))} (h : MPost (cfL cf l n) (fun i => i.val) 0 (n + 1) (idA n) d) : SortedL cf l (listA l d) ∧ d.size = n + 1 := by
  obtain ⟨⟨hs, _, hp⟩, ho⟩ := h
  have hs2 := idA_size n
  have hd : d.size = n + 1 := by omega
  refine ⟨⟨?_, fun i j hij hj => ?_⟩, hd⟩
  · have e1 : d.extract 0 (n + 1) = d := Array.extract_eq_self_of_le (by omega)
    have e2 : (idA n).extract 0 (n + 1) = idA n := Array.extract_eq_self_of_le (by omega)
    rw [e1, e2] at hp
    have h1 := (hp.map (fun i : Fin (n + 1) => i.val)).map (eL l)
    rw [idA_list, List.map_map] at h1
    have e3 : (List.range (n + 1)).map (eL l) = l := by
      rw [← hl]
      apply List.ext_getElem
      · simp
      · intro i h2 h3
        rw [List.getElem_map, List.getElem_range]
        unfold eL
        rw [List.getD_eq_getElem?_getD, List.getElem?_eq_getElem h3]
        rfl
    rw [e3] at h1
    exact h1
  · rw [listA_len] at hj
    rw [List.getD_eq_getElem?_getD, List.getD_eq_getElem?_getD, listA_get l d i (by omega), listA_get l d j hj]
    rcases ho i j (Nat.zero_le _) hij (by omega) with h | h
    · exact Int.le_of_lt h
    · exact Int.le_of_eq h.1
theorem below_sw {α : Type} [Inhabited α] {enc : α → Value} {w W : World} {blk base : Nat} {dk : Array α} (h : SW enc w blk 0 dk W) (hb : base ≤ blk) (hs : base ≤ w.heap.size) : Below base w W := by
  obtain ⟨n, os, rfl⟩ := h
  refine ⟨rfl, rfl, rfl, ?_, fun k hk => ?_⟩
  · unfold sortWorld
    rw [Go.Sort.size_grow, H.size_putRow]
    omega
  · show (((mapBlock (Sort.ahead w n) blk _).heap ++ os))[k]? = w.heap[k]?
    unfold mapBlock
    have hk2 : k < w.heap.size := by omega
    rw [Array.getElem?_append_left (by simp [Sort.ahead]; omega), Array.getElem?_modify, if_neg (by omega)]
    rfl
set_option maxRecDepth 100000 in
theorem insNone_calls (p : Option Addr) (cap : Nat) (fv : Value) (w : World) : Calls Try.prog 172 #[.slice p 0 cap, .int .i64 0, .int .i64 0, fv] w fun e w' => e = .returned (.tuple #[]) ∧ w = w' := by
  go_enter Try.func172, Try.ntmps172
  go_wp2
  refine wp_loop_rounds 1 ?_
  rw [rounds_succ]
  go_wp2
  go_end0
  exact ⟨rfl, rfl⟩
set_option maxRecDepth 100000 in
theorem stableNone_calls (p : Option Addr) (cap : Nat) (fv : Value) (w : World) : Calls Try.prog 160 #[.slice p 0 cap, fv] w fun e w' => e = .returned (.tuple #[]) ∧ w = w' := by
  have K : ∀ W, Calls Try.prog 169 #[.slice p 0 cap, .int .i64 0, fv] W fun e w' => e = .returned (.tuple #[]) ∧ W = w' := by
    intro W
    go_enter Try.func169, Try.ntmps169
    go_wp2
    refine wp_loop_rounds 1 ?_
    rw [rounds_succ]
    go_wp2_with (first | (go_at_call 172; refine (insNone_calls _ _ _ _).mono ?_; rintro e w1 ⟨rfl, rfl⟩))
    refine wp_loop_rounds 1 ?_
    rw [rounds_succ]
    go_wp2
    go_end0
    exact ⟨rfl, rfl⟩
  have KH := Lib.hid K
  clear K
  go_enter Try.func160, Try.ntmps160
  go_wp2_with (first | (go_at_call 169; refine (KH.out _).mono ?_; rintro e w1 ⟨rfl, rfl⟩))
  go_end0
  exact ⟨rfl, rfl⟩
/-- The sort, of a row that lies in a block. -/
theorem sort_row {g : Nat} {cap : Array Value} {cf : Int → Int → Int} {S : Int → Prop} {w w1 : World} {l : List Int} {n blk c : Nat} (eg : ∀ args w, (callFunc g args).run Try.prog w = .ok (.enter g args) w) (hord : OrdW Try.prog g cap cf S w) (hS : ∀ x ∈ l, S x) (hcf : OrdOn cf l) (hl : l.length = n + 1) (hsz : l.length < 1152921504606846976)
    (hB : Below w.heap.size w w1) (hblk : w.heap.size ≤ blk) (hlt : blk < w1.heap.size) (hH : Holds (encF (eL l) n) w1 blk 0 (idA n)) :
    Calls Try.prog 160 #[.slice (some ⟨blk, 0, none⟩) (n + 1 : Nat) c, .func (.func g) #[] cap] w1 fun e w' => e = .returned (.tuple #[]) ∧ ∃ L, SortedL cf l L ∧ Kd.C (Kd.int .i64) w' (some ⟨blk, 0, none⟩) (n + 1) L ∧ Below w.heap.size w w' := by
  have hlays : CmpLays1 Try.prog g cap (encF (eL l) n) (cfL cf l n) blk 0 (idA n).size w1 := by
    intro m os dk hdk x y
    have hsw : SW (encF (eL l) n) w1 blk 0 dk (sortWorld (encF (eL l) n) w1 blk 0 m dk os) := ⟨m, os, rfl⟩
    have hb2 := Below.trans hB (below_sw hsw hblk hB.size)
    refine (hord _ (eL l x.val) (eL l y.val) (hS _ (eL_mem hl x)) (hS _ (eL_mem hl y)) hb2).mono fun e w' h => ⟨h.1, ?_⟩
    exact h.2.grown
  have K := sortStableN_calls (eV := eL l) n g blk c cap (cfL cf l n) (fun i => i.val) (cfL_ok hl hcf) (idA n) w1 eg hlays hH hlt (by rw [idA_size]; omega) (fun k hk => idA_val n k (by rw [idA_size] at hk; exact hk))
  rw [idA_size] at K
  refine K.mono fun e w' h => ⟨h.1, ?_⟩
  obtain ⟨_, d', hp, hsw⟩ := h
  obtain ⟨h1, h2⟩ := sortedL_of hl hp
  have hH2 := hsw.holds hlt hH (by rw [h2, idA_size])
  refine ⟨listA l d', h1, ?_, Below.trans hB (below_sw hsw hblk hB.size)⟩
  refine C_cellsR w' blk (n + 1) _ (by rw [listA_len, h2]) (by omega) (fun j p hj => ?_)
  have hj1 : j < d'.size := by have := (List.getElem?_eq_some_iff.1 hj).1; rwa [listA_len] at this
  have h3 := (hH2 j hj1).1
  rw [Nat.zero_add] at h3
  rw [h3]
  rw [listA_get l d' j hj1] at hj
  rw [← Option.some.inj hj]
  rfl
set_option maxHeartbeats 2000000 in
set_option maxRecDepth 100000 in
theorem sorted_calls {g : Nat} {cap : Array Value} {cf : Int → Int → Int} {S : Int → Prop} {A : Option Addr} {c : Nat} {l : List Int} {w : World} (eg : ∀ args w, (callFunc g args).run Try.prog w = .ok (.enter g args) w) (hord : OrdW Try.prog g cap cf S w) (hS : ∀ x ∈ l, S x) (hcf : OrdOn cf l) (h : Kd.C (Kd.int .i64) w A l.length l) (hl : l.length * 8 ≤ 140737488355328) :
    Calls Try.prog 127 #[.slice A l.length c, .func (.func g) #[] cap] w fun e w' => ∃ A' c' L, e = .returned (.slice A' l.length c') ∧ SortedL cf l L ∧ l.length ≤ c' ∧ Kd.C (Kd.int .i64) w' A' l.length L ∧ Below w.heap.size w w' := by
  have KC := Lib.hid (cloneInt A c l w h hl)
  have HORD := Lib.hid hord
  have HS := Lib.hid hS
  have HCF := Lib.hid hcf
  have HL := Lib.hid hl
  clear h hord hS hcf hl
  have key : ∀ (v : Value) (w1 : World), Kd.R (Kd.int .i64) 3 w1 w.heap.size (fun _ => True) v l → Below w.heap.size w w1 → ∃ A' c', v = .slice A' l.length c' ∧ l.length ≤ c' ∧ Calls Try.prog 160 #[v, .func (.func g) #[] cap] w1 fun e w' => e = .returned (.tuple #[]) ∧ ∃ L, SortedL cf l L ∧ Kd.C (Kd.int .i64) w' A' l.length L ∧ Below w.heap.size w w' := by
    intro v w1 hr hb
    obtain ⟨A', c', rfl, hc, hC⟩ := Kd.R_reads hr
    refine ⟨A', c', rfl, hc, ?_⟩
    rcases Nat.eq_zero_or_pos l.length with h0 | h0
    · have e0 : l = [] := List.eq_nil_of_length_eq_zero h0
      subst e0
      exact (stableNone_calls A' c' _ w1).mono fun e w' q => ⟨q.1, [], ⟨List.Perm.refl _, fun i j _ hj => absurd hj (by simp)⟩, by rw [← q.2]; exact hC, by rw [← q.2]; exact hb⟩
    · obtain ⟨n, hn⟩ : ∃ n, l.length = n + 1 := ⟨l.length - 1, by omega⟩
      have hr0 := hr
      obtain ⟨h1, inner, ⟨ho1, ho2⟩, hrep⟩ := hr
      rcases ho2 with ⟨hv, hz⟩ | ⟨blk, cap', cur, hv, hbase, hheap, hnc, hcm, hcs, htk⟩
      · omega
      · injection hv with e1 e2 e3
        subst e1
        subst e3
        have hH : Holds (encF (eL l) n) w1 blk 0 (idA n) := by
          intro j hj
          rw [idA_size] at hj
          obtain ⟨ad, ea, hcell⟩ := loadInt hC j (by omega)
          injection ea with ea
          subst ea
          rw [add_lit0] at hcell
          refine ⟨?_, ?_⟩
          · rw [Nat.zero_add, hcell]
            unfold encF eL
            rw [idA_get n j hj]
          · simp [World.frozen?, hheap]
        rw [hn]
        rw [hn] at hC
        exact (sort_row eg HORD.out HS.out HCF.out hn (by have := HL.out; omega) hb hbase (Array.getElem?_eq_some_iff.1 hheap).1 hH)
  have HK := Lib.hid key
  clear key
  obtain ⟨n, hn⟩ : ∃ n, l.length = n := ⟨_, rfl⟩
  rw [hn] at KC ⊢
  simp only [hn] at HK
  clear hn
  go_enter Try.func127, Try.ntmps127
  go_upto_region 2 with (first | (go_at_call 159; refine KC.out.mono ?_; rintro e w1 ⟨v, rfl, hr, hb⟩; have HR := Lib.hid hr; have HB := Lib.hid hb; clear hr hb))
  obtain ⟨A', c', rfl, hc', hcall⟩ := HK.out v w1 HR.out HB.out
  have HCA := Lib.hid hcall
  have HCC := Lib.hid hc'
  clear hcall hc'
  go_wp2_with (first | (go_at_call 160; refine HCA.out.mono ?_; rintro e w2 ⟨rfl, L, hL, hC, hb⟩; have HL2 := Lib.hid (And.intro hL (And.intro hC hb)); clear hL hC hb))
  go_ret
  exact ⟨A', c', L, rfl, HL2.out.1, HCC.out, HL2.out.2.1, HL2.out.2.2⟩
end Go.Proofs.Ytaoflcmjmhfblaa.R
