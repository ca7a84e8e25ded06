/- How a controller's state is read as an argument: the few cells that are read of it, and its instances. -/
import Derived.Test.YtnlcpgeapgnkgaaNothing
import Derived.Test.YtnlcpgeapgnkgaaRow
namespace Go.Proofs.Ytnlcpgeapgnkgaa.H
open Go.RowKit Go.Proofs.YtnlcpgeapgnkgaaW.PrintWords Go.Proofs.YtnlcpgeapgnkgaaW.PrintLast Go.Proofs.YtnlcpgeapgnkgaaW.PrintMore
open Go.ChangeShapes Go.WideShapes Go.ChangeAt
set_option linter.unusedVariables false
set_option linter.unusedSimpArgs false
theorem Opens.weak {P : Program} {t : TypeId} {α : Type} {k : Kd α} {wf : α → Prop} (h : Opens P t k wf) : Opens P t k (fun _ => True) where
  size := h.size
  read := fun hr hw => by
    obtain ⟨a, ha, _⟩ := h.read hr hw
    exact ⟨a, ha, trivial⟩
/-- A slice of which the header alone is told. -/
def kHead : Kd (Option Addr × Nat × Nat) := Kd.scalar (fun s => .slice s.1 s.2.1 s.2.2) (fun _ => rfl)
theorem Opens.head {P : Program} {t e : TypeId} (ht : P.underlying t = some (.slice e)) (hc : P.cellsOf t = 1) : Opens P t kHead (fun _ => True) where
  size := hc
  read := fun {H enc w base sp held fuel cs x} hr hw => by
    rcases Go.Deep.open_slice ht hr with ⟨rfl, _⟩ | ⟨a, len, cap, m, n, D, Pl, rfl, _⟩
    · exact ⟨(none, 0, 0), rfl, trivial⟩
    · exact ⟨(some a, len, cap), rfl, trivial⟩
theorem o_i64 : Opens Try.prog 2 (Kd.int .i64) (fun _ => True) := (Opens.int Try.underlying2 (by kernel_rfl)).weak
theorem o_int : Opens Try.prog 3 (Kd.int .i64) (fun _ => True) := (Opens.int Try.underlying3 (by kernel_rfl)).weak
theorem o_u64 : Opens Try.prog 23 (Kd.int .u64) (fun _ => True) := (Opens.int Try.underlying23 (by kernel_rfl)).weak
theorem o_u32 : Opens Try.prog 28 (Kd.int .u32) (fun _ => True) := (Opens.int Try.underlying28 (by kernel_rfl)).weak
theorem o_u8 : Opens Try.prog 5 (Kd.int .u8) (fun _ => True) := (Opens.int Try.underlying5 (by kernel_rfl)).weak
theorem o_bool : Opens Try.prog 4 Kd.bool (fun _ => True) := Opens.bool Try.underlying4 (by kernel_rfl)
def kCfg := Kd.pair kHead (Kd.pair (Kd.int .u8) (Kd.pair (Kd.int .i64) (Kd.pair Kd.bool (Kd.pair (Kd.int .i64) (Kd.pair (Kd.int .i64) (Kd.pair (Kd.int .i64) (Kd.pair (Kd.int .i64) (Kd.pair (Kd.int .i64) (Kd.pair (Kd.int .i64) (Kd.pair (Kd.int .u64) (Kd.pair (Kd.int .u64) (Kd.pair (Kd.int .u64) (Kd.pair (Kd.int .u64) (Kd.pair (Kd.int .u64) (Kd.pair (Kd.int .u64) (Kd.pair Kd.bool (Kd.pair (Kd.int .i64) (Kd.pair kHead kHead))))))))))))))))))
theorem o_cfg : Opens Try.prog 27 kCfg (fun _ => True) :=
  (Opens.struct Try.underlying27 rfl
    ((OpensFs.cons (Opens.head Try.underlying22 (by kernel_rfl)) (OpensFs.cons o_u8 (OpensFs.cons o_i64 (OpensFs.cons o_bool (OpensFs.cons o_i64 (OpensFs.cons o_i64 (OpensFs.cons o_i64 (OpensFs.cons o_i64 (OpensFs.cons o_i64 (OpensFs.cons o_i64 (OpensFs.cons o_u64 (OpensFs.cons o_u64 (OpensFs.cons o_u64 (OpensFs.cons o_u64 (OpensFs.cons o_u64 (OpensFs.cons o_u64 (OpensFs.cons o_bool (OpensFs.cons o_i64 (OpensFs.cons (Opens.head Try.underlying24 (by kernel_rfl)) (OpensFs.one (Opens.head Try.underlying25 (by kernel_rfl)))))))))))))))))))))) : OpensFs _ _ kCfg _)
    (by kernel_rfl) (by kernel_rfl) (by kernel_rfl)).weak
theorem kCfg_cells {w : World} {a} {cs : List Value} (h : kCfg.K w a cs) : ∃ v0 v1 v2 v3 v4 v5 v6 v7 v9 v10 v11 v12 v13 v14 v15 v17 v18 v19 : Value, ∃ (s : Int) (r : Bool), cs = [v0, v1, v2, v3, v4, v5, v6, v7, .int .i64 s, v9, v10, v11, v12, v13, v14, v15, .bool r, v17, v18, v19] := by
  obtain ⟨a0, b0, rfl, h0, a1, b1, rfl, h1, a2, b2, rfl, h2, a3, b3, rfl, h3, a4, b4, rfl, h4, a5, b5, rfl, h5, a6, b6, rfl, h6, a7, b7, rfl, h7, a8, b8, rfl, h8, a9, b9, rfl, h9, a10, b10, rfl, h10, a11, b11, rfl, h11, a12, b12, rfl, h12, a13, b13, rfl, h13, a14, b14, rfl, h14, a15, b15, rfl, h15, a16, b16, rfl, h16, a17, b17, rfl, h17, a18, b18, rfl, h18, h19⟩ := h
  cases h0; cases h1; cases h2; cases h3; cases h4; cases h5; cases h6; cases h7; cases h8; cases h9; cases h10; cases h11; cases h12; cases h13; cases h14; cases h15; cases h16; cases h17; cases h18; cases h19
  exact ⟨_, _, _, _, _, _, _, _, _, _, _, _, _, _, _, _, _, _, _, _, rfl⟩
theorem o_inst : Opens Try.prog 41 kInst (fun _ => True) :=
  (Opens.iso (Opens.struct (k := kInst0) Try.underlying41 rfl
    ((OpensFs.cons o_u64 (OpensFs.cons o_u64 (OpensFs.cons o_int (OpensFs.cons o_i64 (OpensFs.cons o_bool (OpensFs.cons o_u8 (OpensFs.cons o_u64 (OpensFs.cons o_bool (OpensFs.cons o_u64 (OpensFs.cons o_bool (OpensFs.cons o_bool (OpensFs.one o_u32)))))))))))) : OpensFs _ _ kInst0 _)
    (by kernel_rfl) (by kernel_rfl) (by kernel_rfl)) (fun i : InV => (i.id, i.token, i.pool, i.weight, i.spot, i.state, i.due, i.noticed, i.kill, i.risk, i.held, i.version))
    (fun p => ⟨p.1, p.2.1, p.2.2.1, p.2.2.2.1, p.2.2.2.2.1, p.2.2.2.2.2.1, p.2.2.2.2.2.2.1, p.2.2.2.2.2.2.2.1, p.2.2.2.2.2.2.2.2.1, p.2.2.2.2.2.2.2.2.2.1, p.2.2.2.2.2.2.2.2.2.2.1, p.2.2.2.2.2.2.2.2.2.2.2⟩) (fun _ => rfl)).weak
def kRef := Kd.pair Kd.bool (Kd.pair (Kd.int .i64) (Kd.pair (Kd.int .i64) (Kd.pair (Kd.int .i64) (Kd.pair Kd.bool Kd.bool))))
theorem o_ref : Opens Try.prog 33 kRef (fun _ => True) :=
  (Opens.struct Try.underlying33 rfl ((OpensFs.cons o_bool (OpensFs.cons o_i64 (OpensFs.cons o_i64 (OpensFs.cons o_i64 (OpensFs.cons o_bool (OpensFs.one o_bool)))))) : OpensFs _ _ kRef _) (by kernel_rfl) (by kernel_rfl) (by kernel_rfl)).weak
theorem kRef_cells {w : World} {a} {cs : List Value} (h : kRef.K w a cs) : ∃ (on : Bool) (v1 : Value) (most : Int) (v3 : Value) (st : Bool) (v5 : Value), cs = [.bool on, v1, .int .i64 most, v3, .bool st, v5] := by
  obtain ⟨a0, b0, rfl, h0, a1, b1, rfl, h1, a2, b2, rfl, h2, a3, b3, rfl, h3, a4, b4, rfl, h4, h5⟩ := h
  cases h0; cases h1; cases h2; cases h3; cases h4; cases h5
  exact ⟨_, _, _, _, _, _, rfl⟩
def kState := Kd.pair kCfg (Kd.pair kCfg (Kd.pair (Kd.int .u32) (Kd.pair (Kd.int .u64) (Kd.pair (Kd.int .i64) (Kd.pair (Kd.int .u64) (Kd.pair (Kd.int .u64) (Kd.pair kHead (Kd.pair (Kd.slice 41 kInst) (Kd.pair kHead (Kd.pair kRef kHead))))))))))
theorem o_state : Opens Try.prog 36 kState (fun _ => True) :=
  (Opens.struct Try.underlying36 rfl
    ((OpensFs.cons o_cfg (OpensFs.cons o_cfg (OpensFs.cons o_u32 (OpensFs.cons o_u64 (OpensFs.cons o_i64 (OpensFs.cons o_u64 (OpensFs.cons o_u64 (OpensFs.cons (Opens.head Try.underlying29 (by kernel_rfl)) (OpensFs.cons (Opens.slice (bytes := 72) Try.underlying30 (by kernel_rfl) o_inst (by kernel_rfl)).weak (OpensFs.cons (Opens.head Try.underlying31 (by kernel_rfl)) (OpensFs.cons o_ref (OpensFs.one (Opens.head Try.underlying34 (by kernel_rfl)))))))))))))) : OpensFs _ _ kState _)
    (by kernel_rfl) (by kernel_rfl) (by kernel_rfl)).weak
theorem state_open {w : World} {a} {cs : Array Value} (h : kState.K w a cs.toList) : ∃ (s : StV) (L : List InV), StF cs s ∧ kInst.C w s.ia s.ilen L := by
  obtain ⟨a0, b0, e0, h0, a1, b1, rfl, h1, a2, b2, rfl, h2, a3, b3, rfl, h3, a4, b4, rfl, h4, a5, b5, rfl, h5, a6, b6, rfl, h6, a7, b7, rfl, h7, a8, b8, rfl, h8, a9, b9, rfl, h9, a10, b10, rfl, h10, h11⟩ := h
  obtain ⟨v0, v1, v2, v3, v4, v5, v6, v7, v9, v10, v11, v12, v13, v14, v15, v17, v18, v19, s, r, rfl⟩ := kCfg_cells h0
  obtain ⟨u0, u1, u2, u3, u4, u5, u6, u7, u9, u10, u11, u12, u13, u14, u15, u17, u18, u19, s', r', rfl⟩ := kCfg_cells h1
  obtain ⟨on, x1, most, x3, st, x5, rfl⟩ := kRef_cells h10
  obtain ⟨A, c, rfl, hl, hC⟩ := h8
  cases h2; cases h3; cases h4; cases h5; cases h6; cases h7; cases h9; cases h11
  have e1 := congrArg List.toArray e0
  rw [Array.toArray_toList] at e1
  subst e1
  exact ⟨⟨s, r, _, _, A, _, c, _, _, _, on, most, st⟩, _, ⟨rfl, rfl, rfl, rfl, rfl, rfl, rfl, rfl, rfl, rfl⟩, hC⟩
theorem nothing_any {cs : Array Value} {s : StV} (hF : StF cs s) (L : List InV) (w : World) (hL : kInst.C w s.ia s.ilen L) :
    Calls Try.prog 4 #[.agg cs] w fun e w' => e = .returned (.bool true) ∧ Below w.heap.size w w' := by
  cases hg : (decide (300 < s.ilen) || decide (300 < s.olen)) with
  | true => exact nothing_big hF L w hL hg
  | false =>
    by_cases hM : MaySt s L
    · have hb := more_bound hM
      have hc := hM
      obtain ⟨o1, o2, o3, o4⟩ := of_law hM
      refine nothing_core hF L w hL hg (ofV s L) (s.desired + max (max s.surge 100) (moreV s))
        (fun W hW => of_yes hF L W (Kd.C_below hL hW) hM) (fun W hW => ceil_yes hF L W (Kd.C_below hL hW) hM ⟨hb.1, by omega⟩) o1 (fun _ => o2) (fun h => absurd hM.2.2.2 h) (.inr ⟨?_, o3, hM.1.1, hM.1.2, o4⟩)
      have := hM.1.1
      omega
    · refine nothing_core hF L w hL hg 0 0
        (fun W hW => of_no hF L W (Kd.C_below hL hW) hM) (fun W hW => ceil_no hF L W (Kd.C_below hL hW) hM) (by omega) (fun h => (wgh_all h).1.1) (fun _ => rfl) (.inl ⟨rfl, rfl⟩)
theorem extraNothing_walk {a} {cs : Array Value} (W : World) (h : kState.K W a cs.toList) (_ : True) :
    Calls Try.prog 4 #[.agg cs] W fun e w' => e = .returned (.bool true) ∧ Below W.heap.size W w' := by
  obtain ⟨s, L, hF, hL⟩ := state_open h
  exact nothing_any hF L W hL
end Go.Proofs.Ytnlcpgeapgnkgaa.H
