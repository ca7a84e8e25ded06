/- The document's comparison of events; recon's lives. -/
import Derived.Test.YtaoflcmjmhfblaaRc4
import Derived.Test.YtaoflcmjmhfblaaGRegC
namespace Go.Proofs.Ytaoflcmjmhfblaa.C
open Go.RowKit Go.Proofs.YtaoflcmjmhfblaaW.PrintWords Go.Proofs.YtaoflcmjmhfblaaW.PrintLast Go.Proofs.YtaoflcmjmhfblaaW.PrintMore Go.Proofs.Ytaoflcmjmhfblaa.H
set_option linter.unusedVariables false
set_option linter.unusedSimpArgs false
theorem ev_at {w : World} {A : Option Addr} {n : Nat} {l : List EvV} (h : kEv.C w A n l) (i : Nat) (hi : i < n) : ∃ ad, A = some ad ∧ ∀ j v, (l.getD i zEv).cells.toList[j]? = some v → w.cell? ((ad.add (i * 28)).add j) = some v := by
  obtain ⟨ad, cs, e, _, h4, h5⟩ := Kd.C_get h zEv (i : Int) (by omega) (by omega)
  rw [Int.toNat_natCast] at h4 h5
  have e2 : cs = (l.getD i zEv).cells.toList := h4
  subst e2
  refine ⟨ad, e, fun j v hv => ?_⟩
  rw [add_add]
  exact h5 j v hv
theorem add_g (g m : Nat) : (⟨g, 0, none⟩ : Addr).add m = ⟨g, m, none⟩ := by unfold Addr.add; by_cases h : m = 0 <;> simp [h]
/-- A row that fills a block. -/
theorem C_box {α : Type} {d : Kd α} {w : World} {g n : Nat} {cs : Array Value} {T : TypeId} {xs : List α} (h : w.heap[g]? = some (.cells cs T (0, 0))) (hn : xs.length = n) (hb : n ≤ 9223372036854775807)
    (hs : ∀ j p, xs[j]? = some p → ∃ c, c.length = d.sz ∧ d.K w p c ∧ ∀ (i : Nat) u, c[i]? = some u → cs[j * d.sz + i]? = some u) : d.C w (some ⟨g, 0, none⟩) n xs := by
  refine ⟨hn, hb, fun _ => ⟨_, rfl, fun j p hp => ?_⟩⟩
  obtain ⟨c, h1, h2, h3⟩ := hs j p hp
  refine ⟨c, h1, h2, fun i u hu => ?_⟩
  rw [add_g]
  exact (blk_cell h _).trans (h3 i u hu)
theorem C_one {α : Type} {d : Kd α} {w : World} {g : Nat} {cs : Array Value} {T : TypeId} {x : α} (h : w.heap[g]? = some (.cells cs T (0, 0))) (hl : cs.toList.length = d.sz) (hK : d.K w x cs.toList) : d.C w (some ⟨g, 0, none⟩) 1 [x] := by
  refine C_box h rfl (by decide) (fun j p hp => ?_)
  match j, hp with
  | 0, hp =>
    obtain rfl := Option.some.inj hp
    exact ⟨_, hl, hK, fun i u hu => by rw [Nat.zero_mul, Nat.zero_add]; simpa using hu⟩
  | j + 1, hp => simp at hp
set_option maxHeartbeats 4000000 in
set_option maxRecDepth 100000 in
theorem evs_reg (pa pb : Addr) (n ca cb i : Nat) (x : EvV) (hi1 : i < n) (hi2 : (i : Int) < (n : Int)) (hi0 : 0 ≤ (i : Int)) {Q : Exit → Act → World → Prop} (a0 : Act) (W0 : World) (hs : a0.tmps.size = 93) (hdf : a0.defers = []) (f0 : a0.eval (.tmp 0) = .slice (some pa) n ca) (f1 : a0.eval (.tmp 1) = .slice (some pb) n cb) (f5 : a0.eval (.tmp 5) = .int .i64 (i : Int)) (ha : ∀ j v, x.cells.toList[j]? = some v → W0.cell? ((pa.add (i * 28)).add j) = some v) (hb' : ∀ j v, x.cells.toList[j]? = some v → W0.cell? ((pb.add (i * 28)).add j) = some v) (hQ : ∀ (W : World) (g0 g1 : Nat), Below W0.heap.size W0 W → W0.heap.size ≤ g0 → W.heap[g0]? = some (.cells x.cells 43 (0, 0)) → W0.heap.size ≤ g1 → W.heap[g1]? = some (.cells x.cells 43 (0, 0)) → g1 ≠ g0 → Q .normal (setA a0 [(19, .slice (some pa) n ca), (20, .int .i64 (i : Int)), (21, .pointer (some (pa.add (i * 28)))), (22, .agg x.cells), (23, .slice (some pb) n cb), (24, .int .i64 (i : Int)), (25, .pointer (some (pb.add (i * 28)))), (26, .agg x.cells), (6, .pointer (some ⟨g0, 0, none⟩)), (7, .pointer (some ⟨g1, 0, none⟩))]) W) : (Code.region 6 #[{ dst := some 19, op := Op.move (Operand.tmp 0), type := 25, pos := "ref.go:213", after := #[], guard := none }, { dst := some 20, op := Op.move (Operand.tmp 5), type := 3, pos := "ref.go:213", after := #[], guard := none }, { dst := some 21, op := Op.indexAddr 25 (Operand.tmp 19) (Operand.tmp 20), type := 0, pos := "ref.go:213", after := #[{ on := 0, ground := Ground.data }, { on := 1, ground := Ground.data }], guard := none }, { dst := some 22, op := Op.load 43 (Operand.tmp 21), type := 43, pos := "ref.go:213", after := #[{ on := 2, ground := Ground.data }], guard := none }, { dst := some 23, op := Op.move (Operand.tmp 1), type := 25, pos := "ref.go:213", after := #[{ on := 10, ground := Ground.gcOnly Departure.lateStores }], guard := none }, { dst := some 24, op := Op.move (Operand.tmp 5), type := 3, pos := "ref.go:213", after := #[{ on := 10, ground := Ground.gcOnly Departure.lateStores }], guard := none }, { dst := some 25, op := Op.indexAddr 25 (Operand.tmp 23) (Operand.tmp 24), type := 0, pos := "ref.go:213", after := #[{ on := 4, ground := Ground.data }, { on := 5, ground := Ground.data }, { on := 10, ground := Ground.gcOnly Departure.lateStores }], guard := none }, { dst := some 26, op := Op.load 43 (Operand.tmp 25), type := 43, pos := "ref.go:213", after := #[{ on := 6, ground := Ground.data }, { on := 10, ground := Ground.gcOnly Departure.lateStores }], guard := none }, { dst := some 6, op := Op.alloc 43, type := 0, pos := "ref.go:213", after := #[], guard := none }, { dst := some 7, op := Op.alloc 43, type := 0, pos := "ref.go:213", after := #[], guard := none }, { dst := none, op := Op.store 43 (Operand.tmp 6) (Operand.tmp 22), type := 0, pos := "ref.go:213", after := #[{ on := 8, ground := Ground.data }, { on := 3, ground := Ground.data }, { on := 0, ground := Ground.phase }, { on := 1, ground := Ground.phase }, { on := 2, ground := Ground.phase }, { on := 3, ground := Ground.phase }, { on := 4, ground := Ground.textOnly Departure.lateStores }, { on := 5, ground := Ground.textOnly Departure.lateStores }, { on := 6, ground := Ground.textOnly Departure.lateStores }, { on := 7, ground := Ground.textOnly Departure.lateStores }, { on := 8, ground := Ground.phase }, { on := 9, ground := Ground.phase }], guard := none }, { dst := none, op := Op.store 43 (Operand.tmp 7) (Operand.tmp 26), type := 0, pos := "ref.go:213", after := #[{ on := 9, ground := Ground.data }, { on := 7, ground := Ground.data }, { on := 10, ground := Ground.chain }, { on := 0, ground := Ground.phase }, { on := 1, ground := Ground.phase }, { on := 2, ground := Ground.phase }, { on := 3, ground := Ground.phase }, { on := 4, ground := Ground.phase }, { on := 5, ground := Ground.phase }, { on := 6, ground := Ground.phase }, { on := 7, ground := Ground.phase }, { on := 8, ground := Ground.phase }, { on := 9, ground := Ground.phase }, { on := 10, ground := Ground.phase }], guard := none }] true).wp Try.prog Q a0 W0 := by
  refine wp_region_inv_at (by kernel_rfl) (fun a0 L a W => a0.tmps.size = 93 ∧ VInv [(0, 19, .slice (some pa) n ca), (1, 20, .int .i64 (i : Int)), (2, 21, .pointer (some (pa.add (i * 28)))), (3, 22, .agg x.cells), (4, 23, .slice (some pb) n cb), (5, 24, .int .i64 (i : Int)), (6, 25, .pointer (some (pb.add (i * 28)))), (7, 26, .agg x.cells)] [19, 20, 21, 22, 23, 24, 25, 26, 6, 7] a0 L a ∧ ∃ G : Nat → Nat, AInvs W0 [⟨8, 10, 6, zEv.cells, x.cells, 43⟩, ⟨9, 11, 7, zEv.cells, x.cells, 43⟩] L a W G) (by kernel_rfl) ⟨hs, VInv.start _ _ _, (fun _ => 0), AInvs.start _ (below_drew (Below.refl _ _))⟩ ?_ ?_
  · intro L i' o a W K hI ho hL hdep0 hK
    obtain ⟨hs, hV, G, hA⟩ := hI
    have e0 := (hV.keep 0 (by decide)).trans f0
    have e1 := (hV.keep 1 (by decide)).trans f1
    have e5 := (hV.keep 5 (by decide)).trans f5
    have hdep := deps o hdep0
    clear hdep0
    match i', ho with
    | 0, ho =>
      simp only [List.getElem?_toArray, List.getElem?_cons_zero, List.getElem?_cons_succ, Option.some.injEq] at ho
      subst ho
      have E0 := e0
      refine stp_move rfl (by first | exact .inl rfl | exact .inr rfl) ?_
      rw [E0]
      exact hK _ _ ⟨hs, hV.put (by show List.Nodup [0, 1, 2, 3, 4, 5, 6, 7]; decide) (by show List.Nodup [19, 20, 21, 22, 23, 24, 25, 26]; decide) 0 rfl (by decide) (by rw [hs]; decide), G, hA.val0 (by show ¬ 0 ∈ [8, 9]; decide) (by show ¬ 0 ∈ [10, 11]; decide) (by show ¬ 19 ∈ [6, 7]; decide)⟩
    | 1, ho =>
      simp only [List.getElem?_toArray, List.getElem?_cons_zero, List.getElem?_cons_succ, Option.some.injEq] at ho
      subst ho
      have E5 := e5
      refine stp_move rfl (by first | exact .inl rfl | exact .inr rfl) ?_
      rw [E5]
      exact hK _ _ ⟨hs, hV.put (by show List.Nodup [0, 1, 2, 3, 4, 5, 6, 7]; decide) (by show List.Nodup [19, 20, 21, 22, 23, 24, 25, 26]; decide) 1 rfl (by decide) (by rw [hs]; decide), G, hA.val0 (by show ¬ 1 ∈ [8, 9]; decide) (by show ¬ 1 ∈ [10, 11]; decide) (by show ¬ 20 ∈ [6, 7]; decide)⟩
    | 2, ho =>
      simp only [List.getElem?_toArray, List.getElem?_cons_zero, List.getElem?_cons_succ, Option.some.injEq] at ho
      subst ho
      have E19 := hV.get 0 rfl (hdep 0 (by decide))
      have E20 := hV.get 1 rfl (hdep 1 (by decide))
      refine stp2 (v := .pointer (some (pa.add (i * 28)))) (w' := W) (.tmp 19) _ (.tmp 20) _ rfl E19 E20 (fun ρ hc hρ hρ2 => by clear hV hK hA; (first | (go_simp; done) | (go_simp; rfl))) ?_
      exact hK _ _ ⟨hs, hV.put (by show List.Nodup [0, 1, 2, 3, 4, 5, 6, 7]; decide) (by show List.Nodup [19, 20, 21, 22, 23, 24, 25, 26]; decide) 2 rfl (by decide) (by rw [hs]; decide), G, hA.val0 (by show ¬ 2 ∈ [8, 9]; decide) (by show ¬ 2 ∈ [10, 11]; decide) (by show ¬ 21 ∈ [6, 7]; decide)⟩
    | 3, ho =>
      simp only [List.getElem?_toArray, List.getElem?_cons_zero, List.getElem?_cons_succ, Option.some.injEq] at ho
      subst ho
      have E21 := hV.get 2 rfl (hdep 2 (by decide))
      refine stp_load_anyC (cs := x.cells.toList) rfl rfl E21 (fun j v hj => (hA.below.cell (World.block_lt_of_cell? _ _ (ha j v hj))).trans (ha j v hj)) Try.underlying43 rfl (by kernel_rfl) ?_
      exact hK _ _ ⟨hs, hV.put (by show List.Nodup [0, 1, 2, 3, 4, 5, 6, 7]; decide) (by show List.Nodup [19, 20, 21, 22, 23, 24, 25, 26]; decide) 3 rfl (by decide) (by rw [hs]; decide), G, hA.val0 (by show ¬ 3 ∈ [8, 9]; decide) (by show ¬ 3 ∈ [10, 11]; decide) (by show ¬ 22 ∈ [6, 7]; decide)⟩
    | 4, ho =>
      simp only [List.getElem?_toArray, List.getElem?_cons_zero, List.getElem?_cons_succ, Option.some.injEq] at ho
      subst ho
      have E1 := e1
      refine stp_move rfl (by first | exact .inl rfl | exact .inr rfl) ?_
      rw [E1]
      exact hK _ _ ⟨hs, hV.put (by show List.Nodup [0, 1, 2, 3, 4, 5, 6, 7]; decide) (by show List.Nodup [19, 20, 21, 22, 23, 24, 25, 26]; decide) 4 rfl (by decide) (by rw [hs]; decide), G, hA.val0 (by show ¬ 4 ∈ [8, 9]; decide) (by show ¬ 4 ∈ [10, 11]; decide) (by show ¬ 23 ∈ [6, 7]; decide)⟩
    | 5, ho =>
      simp only [List.getElem?_toArray, List.getElem?_cons_zero, List.getElem?_cons_succ, Option.some.injEq] at ho
      subst ho
      have E5 := e5
      refine stp_move rfl (by first | exact .inl rfl | exact .inr rfl) ?_
      rw [E5]
      exact hK _ _ ⟨hs, hV.put (by show List.Nodup [0, 1, 2, 3, 4, 5, 6, 7]; decide) (by show List.Nodup [19, 20, 21, 22, 23, 24, 25, 26]; decide) 5 rfl (by decide) (by rw [hs]; decide), G, hA.val0 (by show ¬ 5 ∈ [8, 9]; decide) (by show ¬ 5 ∈ [10, 11]; decide) (by show ¬ 24 ∈ [6, 7]; decide)⟩
    | 6, ho =>
      simp only [List.getElem?_toArray, List.getElem?_cons_zero, List.getElem?_cons_succ, Option.some.injEq] at ho
      subst ho
      have E23 := hV.get 4 rfl (hdep 4 (by decide))
      have E24 := hV.get 5 rfl (hdep 5 (by decide))
      refine stp2 (v := .pointer (some (pb.add (i * 28)))) (w' := W) (.tmp 23) _ (.tmp 24) _ rfl E23 E24 (fun ρ hc hρ hρ2 => by clear hV hK hA; (first | (go_simp; done) | (go_simp; rfl))) ?_
      exact hK _ _ ⟨hs, hV.put (by show List.Nodup [0, 1, 2, 3, 4, 5, 6, 7]; decide) (by show List.Nodup [19, 20, 21, 22, 23, 24, 25, 26]; decide) 6 rfl (by decide) (by rw [hs]; decide), G, hA.val0 (by show ¬ 6 ∈ [8, 9]; decide) (by show ¬ 6 ∈ [10, 11]; decide) (by show ¬ 25 ∈ [6, 7]; decide)⟩
    | 7, ho =>
      simp only [List.getElem?_toArray, List.getElem?_cons_zero, List.getElem?_cons_succ, Option.some.injEq] at ho
      subst ho
      have E25 := hV.get 6 rfl (hdep 6 (by decide))
      refine stp_load_anyC (cs := x.cells.toList) rfl rfl E25 (fun j v hj => (hA.below.cell (World.block_lt_of_cell? _ _ (hb' j v hj))).trans (hb' j v hj)) Try.underlying43 rfl (by kernel_rfl) ?_
      exact hK _ _ ⟨hs, hV.put (by show List.Nodup [0, 1, 2, 3, 4, 5, 6, 7]; decide) (by show List.Nodup [19, 20, 21, 22, 23, 24, 25, 26]; decide) 7 rfl (by decide) (by rw [hs]; decide), G, hA.val0 (by show ¬ 7 ∈ [8, 9]; decide) (by show ¬ 7 ∈ [10, 11]; decide) (by show ¬ 26 ∈ [6, 7]; decide)⟩
    | 8, ho =>
      simp only [List.getElem?_toArray, List.getElem?_cons_zero, List.getElem?_cons_succ, Option.some.injEq] at ho
      subst ho
      refine stp (v := .pointer (some ⟨W.heap.size, 0, none⟩)) (w' := W.alloc (.cells zEv.cells 43 (0, 0))) rfl (by clear hV hK hA; first | (go_simp; done) | (go_simp; rfl)) ?_
      exact hK _ _ ⟨hs, hV.other (by show ¬ 8 ∈ [0, 1, 2, 3, 4, 5, 6, 7]; decide) (by show ¬ 6 ∈ [19, 20, 21, 22, 23, 24, 25, 26]; decide) (by decide), _, hA.alloc (by show List.Nodup [8, 9]; decide) (by show List.Nodup [6, 7]; decide) (List.mem_cons_self ..) (by show ¬ 8 ∈ [10, 11]; decide) hL (by rw [hV.size, hs]; show 6 < 93; decide)⟩
    | 9, ho =>
      simp only [List.getElem?_toArray, List.getElem?_cons_zero, List.getElem?_cons_succ, Option.some.injEq] at ho
      subst ho
      refine stp (v := .pointer (some ⟨W.heap.size, 0, none⟩)) (w' := W.alloc (.cells zEv.cells 43 (0, 0))) rfl (by clear hV hK hA; first | (go_simp; done) | (go_simp; rfl)) ?_
      exact hK _ _ ⟨hs, hV.other (by show ¬ 9 ∈ [0, 1, 2, 3, 4, 5, 6, 7]; decide) (by show ¬ 7 ∈ [19, 20, 21, 22, 23, 24, 25, 26]; decide) (by decide), _, hA.alloc (by show List.Nodup [8, 9]; decide) (by show List.Nodup [6, 7]; decide) (List.mem_cons_of_mem _ (List.mem_cons_self ..)) (by show ¬ 9 ∈ [10, 11]; decide) hL (by rw [hV.size, hs]; show 7 < 93; decide)⟩
    | 10, ho =>
      simp only [List.getElem?_toArray, List.getElem?_cons_zero, List.getElem?_cons_succ, Option.some.injEq] at ho
      subst ho
      have E22 := hV.get 3 rfl (hdep 3 (by decide))
      have hia := hdep 8 (by decide)
      have hrw := hA.row _ (List.mem_cons_self ..) hia
      refine ⟨fun _ => wp_store_row 43 _ _ rfl (G 8) x.cells hrw.1 E22 43 _ (by have h3 := hrw.2.2; simp only [] at h3; rw [hL] at h3; exact h3) (by kernel_rfl) (by rfl) (by simp [Value.oneCell', EvV.cells]) ?_, fun h2 => absurd h2 (by simp [Region.wanted])⟩
      exact hK _ _ ⟨hs, hV.skip (by show ¬ 10 ∈ [0, 1, 2, 3, 4, 5, 6, 7]; decide), G, hA.store (by show List.Nodup [8, 9]; decide) (by show List.Nodup [10, 11]; decide) (List.mem_cons_self ..) (by show ¬ 10 ∈ [8, 9]; decide) hia hL⟩
    | 11, ho =>
      simp only [List.getElem?_toArray, List.getElem?_cons_zero, List.getElem?_cons_succ, Option.some.injEq] at ho
      subst ho
      have E26 := hV.get 7 rfl (hdep 7 (by decide))
      have hia := hdep 9 (by decide)
      have hrw := hA.row _ (List.mem_cons_of_mem _ (List.mem_cons_self ..)) hia
      refine ⟨fun _ => wp_store_row 43 _ _ rfl (G 9) x.cells hrw.1 E26 43 _ (by have h3 := hrw.2.2; simp only [] at h3; rw [hL] at h3; exact h3) (by kernel_rfl) (by rfl) (by simp [Value.oneCell', EvV.cells]) ?_, fun h2 => absurd h2 (by simp [Region.wanted])⟩
      exact hK _ _ ⟨hs, hV.skip (by show ¬ 11 ∈ [0, 1, 2, 3, 4, 5, 6, 7]; decide), G, hA.store (by show List.Nodup [8, 9]; decide) (by show List.Nodup [10, 11]; decide) (List.mem_cons_of_mem _ (List.mem_cons_self ..)) (by show ¬ 11 ∈ [8, 9]; decide) hia hL⟩
    | i' + 12, ho => simp at ho
  · intro L a W hI hall
    obtain ⟨hs', hV, G, hA⟩ := hI
    have ha : a = setA a0 [(19, a.eval (.tmp 19)), (20, a.eval (.tmp 20)), (21, a.eval (.tmp 21)), (22, a.eval (.tmp 22)), (23, a.eval (.tmp 23)), (24, a.eval (.tmp 24)), (25, a.eval (.tmp 25)), (26, a.eval (.tmp 26)), (6, a.eval (.tmp 6)), (7, a.eval (.tmp 7))] := hV.act (fun k hk => by rw [hs]; simp at hk; omega)
    rw [hV.get 0 rfl (hall 0 (by decide))] at ha
    rw [hV.get 1 rfl (hall 1 (by decide))] at ha
    rw [hV.get 2 rfl (hall 2 (by decide))] at ha
    rw [hV.get 3 rfl (hall 3 (by decide))] at ha
    rw [hV.get 4 rfl (hall 4 (by decide))] at ha
    rw [hV.get 5 rfl (hall 5 (by decide))] at ha
    rw [hV.get 6 rfl (hall 6 (by decide))] at ha
    rw [hV.get 7 rfl (hall 7 (by decide))] at ha
    obtain ⟨h1_0, h2_0, h3_0⟩ := hA.row _ (List.mem_cons_self ..) (hall 8 (by decide))
    simp only [] at h1_0 h2_0 h3_0
    rw [h1_0] at ha
    rw [hall 10 (by decide)] at h3_0
    obtain ⟨h1_1, h2_1, h3_1⟩ := hA.row _ (List.mem_cons_of_mem _ (List.mem_cons_self ..)) (hall 9 (by decide))
    simp only [] at h1_1 h2_1 h3_1
    rw [h1_1] at ha
    rw [hall 11 (by decide)] at h3_1
    rw [ha]
    exact hQ W _ _ hA.below h2_0 h3_0 h2_1 h3_1 (hA.inj _ (List.mem_cons_of_mem _ (List.mem_cons_self ..)) _ (List.mem_cons_self ..) (by show 9 ≠ 8; decide) (hall 9 (by decide)) (hall 8 (by decide)))
set_option maxHeartbeats 8000000 in
set_option maxRecDepth 100000 in
theorem evs_calls {A B : Option Addr} (ca cb : Nat) {n : Nat} {l : List EvV} (w : World) (hA : kEv.C w A n l) (hB : kEv.C w B n l) :
    Calls Try.prog 64 #[.slice A n ca, .slice B n cb] w fun e w' => e = .returned (.bool true) ∧ Below w.heap.size w w' := by
  have hm := Kd.C_max hA
  have HA := Lib.hid hA
  have HB := Lib.hid hB
  clear hA hB
  go_enter Try.func64, Try.ntmps64
  go_wp2_with fail
  go_loopw [5] (fun v5 wr => ∃ i : Nat, i ≤ n ∧ v5 = .int .i64 i ∧ Hid (Below w.heap.size w wr)) (fun v5 _ => n - (intOf v5).toNat)
  case atStart => exact ⟨0, Nat.zero_le _, rfl, Lib.hid (Below.refl _ _)⟩
  case round =>
    obtain ⟨i, hi, rfl, HW⟩ := hrel
    by_cases hlt : i < n
    · obtain ⟨pa, ea, ha⟩ := ev_at (Kd.C_below HA.out HW.out) i hlt
      obtain ⟨pb, eb, hb⟩ := ev_at (Kd.C_below HB.out HW.out) i hlt
      subst ea
      subst eb
      obtain ⟨x, hx⟩ : ∃ x, l.getD i zEv = x := ⟨_, rfl⟩
      rw [hx] at ha hb
      have HPA := Lib.hid ha
      have HPB := Lib.hid hb
      clear ha hb hx
      have l1 : (i : Int) < (n : Int) := by omega
      have l0 : (0 : Int) ≤ (i : Int) := by omega
      go_upto_region 6 with fail
      refine evs_reg pa pb n ca cb i x hlt l1 l0 _ _ rfl rfl rfl rfl rfl HPA.out HPB.out ?_
      intro w2 g6 g7 hb2 hl6 hX6 hl7 hX7 hne
      simp only [put_none_, setA, List.foldl_cons, List.foldl_nil, List.setIfInBounds_toArray, List.set_cons_succ, List.set_cons_zero]
      have HW2 := Lib.hid (below_step HW.out hb2)
      have a0 : w2.cell? ⟨g6, 0, none⟩ = some (.int .u8 x.kind) := (blk_cell hX6 0).trans rfl
      have b0 : w2.cell? ⟨g7, 0, none⟩ = some (.int .u8 x.kind) := (blk_cell hX7 0).trans rfl
      have a1 : w2.cell? ⟨g6, 1, none⟩ = some (.int .u64 x.token) := (blk_cell hX6 1).trans rfl
      have b1 : w2.cell? ⟨g7, 1, none⟩ = some (.int .u64 x.token) := (blk_cell hX7 1).trans rfl
      have a2 : w2.cell? ⟨g6, 2, none⟩ = some (.int .u64 x.id) := (blk_cell hX6 2).trans rfl
      have b2 : w2.cell? ⟨g7, 2, none⟩ = some (.int .u64 x.id) := (blk_cell hX7 2).trans rfl
      have a3 : w2.cell? ⟨g6, 3, none⟩ = some (.int .i64 0) := (blk_cell hX6 3).trans rfl
      have b3 : w2.cell? ⟨g7, 3, none⟩ = some (.int .i64 0) := (blk_cell hX7 3).trans rfl
      have a4 : w2.cell? ⟨g6, 4, none⟩ = some (.int .i64 0) := (blk_cell hX6 4).trans rfl
      have b4 : w2.cell? ⟨g7, 4, none⟩ = some (.int .i64 0) := (blk_cell hX7 4).trans rfl
      have a5 : w2.cell? ⟨g6, 5, none⟩ = some (.int .i64 0) := (blk_cell hX6 5).trans rfl
      have b5 : w2.cell? ⟨g7, 5, none⟩ = some (.int .i64 0) := (blk_cell hX7 5).trans rfl
      have a6 : w2.cell? ⟨g6, 6, none⟩ = some (.bool false) := (blk_cell hX6 6).trans rfl
      have b6 : w2.cell? ⟨g7, 6, none⟩ = some (.bool false) := (blk_cell hX7 6).trans rfl
      have a7 : w2.cell? ⟨g6, 7, none⟩ = some (.int .u64 0) := (blk_cell hX6 7).trans rfl
      have b7 : w2.cell? ⟨g7, 7, none⟩ = some (.int .u64 0) := (blk_cell hX7 7).trans rfl
      have a8 : w2.cell? ⟨g6, 8, none⟩ = some (.slice none 0 0) := (blk_cell hX6 8).trans rfl
      have b8 : w2.cell? ⟨g7, 8, none⟩ = some (.slice none 0 0) := (blk_cell hX7 8).trans rfl
      clear hX6 hX7 hl6 hl7 hne hb2
      go_wp2_with fail
      all_goals first | (exfalso; omega) | exact ⟨⟨i + 1, by omega, by go_num, HW2⟩, by simp only [intOf]; omega⟩
    · have l1 : ¬ (i : Int) < (n : Int) := by omega
      go_wp2_with fail
      go_ret
      exact ⟨rfl, HW.out⟩
end Go.Proofs.Ytaoflcmjmhfblaa.C
