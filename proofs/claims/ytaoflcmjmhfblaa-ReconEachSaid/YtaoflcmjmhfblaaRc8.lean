/- The document's search of an instance. -/
import Derived.Test.YtaoflcmjmhfblaaRc7
namespace Go.Proofs.Ytaoflcmjmhfblaa.C
open Go.RowKit Go.Proofs.YtaoflcmjmhfblaaW.PrintWords Go.Proofs.YtaoflcmjmhfblaaW.PrintLast Go.Proofs.YtaoflcmjmhfblaaW.PrintMore Go.Proofs.Ytaoflcmjmhfblaa.H
set_option linter.unusedVariables false
set_option linter.unusedSimpArgs false
theorem res_cell_tmpC {P : Program} {w : World} {fn : Func} {tmps : Array Value} {a t b : Nat} {p : Addr} {v : Value} (hf : fn.results = #[.cell a t, .tmp b]) (ha : tmps.getD a undef = .pointer (some p)) (hl : (loadVar t p).run P w = .ok v w) : (results fn tmps).run P w = .ok (.tuple #[v, tmps.getD b undef]) w := by
  have ha' : tmps[a]?.getD undef = .pointer (some p) := by simpa using ha
  simp [results, hf, ha', asAddr, hl]
theorem run_loadVar_boxC {P : Program} {w : World} (ty : TypeId) (g t : Nat) (cs : Array Value) (fr : Nat × Nat) (d : TypeDesc) (hg : w.heap[g]? = some (.cells cs t fr))
    (hu : P.underlying ty = some d) (hd : d.isRow = true) (hi : (P.info? ty).map (·.size) = some cs.size) : (loadVar ty ⟨g, 0, none⟩).run P w = .ok (.agg cs) w := by
  have := run_loadVar_anyC (P := P) (w := w) ty ⟨g, 0, none⟩ cs.toList d (fun j v hv => by
    rw [add_lit0]; simp only [World.cell?, hg]; simpa using hv) hu hd (by simpa using hi)
  simpa using this
def lookL_ (L : List InV) (x : Int) : Option InV := lookI (fun i : InV => i.id) L x
set_option maxHeartbeats 2000000 in
set_option maxRecDepth 100000 in
theorem place_calls {AL : Option Addr} (cL : Nat) {nL : Nat} {L : List InV} (id : Int) (w : World) (hL : kInst.C w AL nL L) :
    Calls Try.prog 71 #[.slice AL nL cL, .int .u64 id] w fun e w' => ((e = .returned (.int .i64 (-1)) ∧ lookL_ L id = none) ∨ (∃ m : Nat, e = .returned (.int .i64 m) ∧ m < nL ∧ (lookL_ L id).isSome = true)) ∧ w = w' := by
  have hm := Kd.C_max hL
  have hn := hL.1
  have HL := Lib.hid hL
  have HN := Lib.hid hn
  clear hL hn
  go_enter Try.func71, Try.ntmps71
  go_wp2_with fail
  go_loopw [5] (fun v5 wr => ∃ i : Nat, i ≤ nL ∧ v5 = .int .i64 i ∧ w = wr ∧ Hid (∀ j, j < i → (L.getD j noInst).id ≠ id)) (fun v5 _ => nL - (intOf v5).toNat)
  case atStart => exact ⟨0, Nat.zero_le _, rfl, rfl, Lib.hid (fun j h => absurd h (Nat.not_lt_zero _))⟩
  case round =>
    obtain ⟨i, hi, rfl, rfl, HE⟩ := hrel
    by_cases hlt : i < nL
    · obtain ⟨al, ea, hc⟩ := inst_at HL.out i hlt
      subst ea
      have c00 := hc 0 _ rfl
      rw [add_zero'] at c00
      obtain ⟨y, hy⟩ : ∃ y, (L.getD i noInst).id = y := ⟨_, rfl⟩
      have HY := Lib.hid hy
      have c0 : w.cell? (al.add (i * 12)) = some (.int .u64 y) := by rw [← hy]; exact c00
      clear hc hy c00
      have l1 : (i : Int) < (nL : Int) := by omega
      have l0 : (0 : Int) ≤ (i : Int) := by omega
      by_cases hye : y = id
      · have hyb : (y == id) = true := by simp [hye]
        have HYE := Lib.hid hye
        clear hye
        go_wp2_with fail
        all_goals first | (exfalso; omega) | (go_ret; exact ⟨.inr ⟨i, rfl, hlt, by
          unfold lookL_ lookI
          rw [List.find?_isSome]
          refine ⟨L.getD i noInst, ?_, by simp only [HY.out, HYE.out]; simp⟩
          rw [List.getD_eq_getElem?_getD, List.getElem?_eq_getElem (by rw [HN.out]; exact hlt)]
          exact List.getElem_mem _⟩, rfl⟩)
      · have hyb : (y == id) = false := by simp [hye]
        have HYE := Lib.hid hye
        clear hye
        go_wp2_with fail
        all_goals first | (exfalso; omega) | exact ⟨⟨i + 1, by omega, by go_num, (by first | rfl | trivial), Lib.hid (fun j hj => by
          by_cases e : j = i
          · subst e; rw [HY.out]; exact HYE.out
          · exact HE.out j (by omega))⟩, by simp only [intOf]; omega⟩
    · have l1 : ¬ (i : Int) < (nL : Int) := by omega
      have HIE := Lib.hid (show i = nL by omega)
      go_wp2_with fail
      all_goals first | (exfalso; omega) | (go_ret; exact ⟨.inl ⟨rfl, by
        unfold lookL_ lookI
        rw [List.find?_eq_none]
        intro x hx
        obtain ⟨j, hj, rfl⟩ := List.getElem_of_mem hx
        have := HE.out j (by rw [HIE.out, ← HN.out]; exact hj)
        rw [List.getD_eq_getElem?_getD, List.getElem?_eq_getElem hj] at this
        simpa using this⟩, rfl⟩)
set_option maxHeartbeats 4000000 in
set_option maxRecDepth 100000 in
theorem find_calls {AL : Option Addr} (cL : Nat) {nL : Nat} {L : List InV} (id : Int) (w : World) (hL : kInst.C w AL nL L) (hM : MayL L) :
    Calls Try.prog 19 #[.slice AL nL cL, .int .u64 id] w fun e w' => ∃ x : InV, e = .returned (.tuple #[.agg x.cells, .bool (lookL_ L id).isSome]) ∧ Below w.heap.size w w' := by
  have hm := Kd.C_max hL
  have HL := Lib.hid hL
  have HM := Lib.hid hM
  have KP := Lib.hid (show ∀ W, Below w.heap.size w W → _ from fun W hW => place_calls cL id W (Kd.C_below hL hW))
  have KM := Lib.hid (show ∀ W, Below w.heap.size w W → _ from fun W hW => rsumsMay_calls AL cL nL L W (Kd.C_below hL hW))
  clear hL hM
  obtain ⟨o, ho⟩ : ∃ o, lookL_ L id = o := ⟨_, rfl⟩
  rw [ho] at KP ⊢
  clear ho
  go_enter Try.func19, Try.ntmps19
  go_upto_region 1 with fail
  refine gen_w (fun W => W.heap[w.heap.size]? = some (.cells noInst.cells 34 (0, 0)) ∧ Below w.heap.size w W) ⟨heap_alloc_new _ _, below_alloc (Below.refl _ _) _⟩ ?_
  rintro W ⟨hX, hB⟩
  have HX := Lib.hid hX
  have HB := Lib.hid hB
  clear hX hB
  go_upto_region 2 with (go_at_call 71; refine (KP.out _ HB.out).mono ?_; rintro e w' ⟨hk, rfl⟩; rcases hk with ⟨rfl, hk⟩ | ⟨m, rfl, hml, hk⟩)
  · subst hk
    go_wp2_with ((with_reducible refine gate_storeT 34 rfl ?_); refine bx_row rfl 34 (.tmp 4) (.tmp 17) rfl w.heap.size rfl noInst.cells rfl 34 noInst.cells HX.out (by kernel_rfl) (by rfl) (by simp [noInst, InV.cells, Value.oneCell']) HB.out (Nat.le_refl _) ?_; intro w2 hx2 hsz hoth hbb; have HX2 := Lib.hid hx2; have HB2 := Lib.hid hbb; clear hx2 hsz hoth hbb)
    refine bodyPost_ret (res_cell_tmpC rfl rfl (run_loadVar_boxC 34 _ 34 _ _ _ HX2.out Try.underlying34 rfl (by kernel_rfl))) rfl ?_
    first | exact ⟨_, rfl, HB2.out⟩ | exact ⟨⟨_, rfl⟩, HB2.out⟩
  · obtain ⟨o, rfl⟩ := Option.isSome_iff_exists.1 hk
    obtain ⟨al, ea, hc⟩ := inst_at (Kd.C_below HL.out HB.out) m hml
    subst ea
    have HCW := Lib.hid hc
    clear hc hk
    obtain ⟨x, hx⟩ : ∃ x, L.getD m noInst = x := ⟨_, rfl⟩
    rw [hx] at HCW
    clear hx
    have l1 : (m : Int) < (nL : Int) := by omega
    have l0 : (0 : Int) ≤ (m : Int) := by omega
    have l2 : ¬ (m : Int) < 0 := by omega
    go_wp2_with (first
      | ((with_reducible refine gate_storeT 34 rfl ?_); refine bx_row rfl 34 (.tmp 4) (.tmp 21) rfl w.heap.size rfl x.cells rfl 34 noInst.cells HX1.out (by kernel_rfl) (by rfl) (by simp [InV.cells, Value.oneCell']) HB1.out (Nat.le_refl _) ?_; intro w2 hx2 hsz hoth hbb; have HX2 := Lib.hid hx2; have HB2 := Lib.hid hbb; clear hx2 hsz hoth hbb)
      | ((with_reducible refine gate_load 34 rfl ?_); refine wpList_load_any rfl 34 _ rfl _ rfl x.cells.toList _ HC1.out Try.underlying34 rfl (by kernel_rfl) ?_)
      | (go_at_call 18; refine (KM.out _ HB.out).mono ?_; rintro e w1 ⟨⟨b1, rfl, hb1⟩, hb⟩; obtain rfl : b1 = true := hb1.2 HM.out; have HB1 := Lib.hid (below_step HB.out hb); have HX1 := Lib.hid (blk_call hb HX.out); have HC1 := Lib.hid (show ∀ j v, x.cells.toList[j]? = some v → w1.cell? ((al.add (m * 12)).add j) = some v from fun j v hj => (hb.cell (World.block_lt_of_cell? _ _ (HCW.out j v hj))).trans (HCW.out j v hj)); clear hb hb1))
    refine bodyPost_ret (res_cell_tmpC rfl rfl (run_loadVar_boxC 34 _ 34 _ _ _ HX2.out Try.underlying34 rfl (by kernel_rfl))) rfl ?_
    first | exact ⟨_, rfl, HB2.out⟩ | exact ⟨⟨_, rfl⟩, HB2.out⟩
end Go.Proofs.Ytaoflcmjmhfblaa.C
