/- recon.come's iterator. -/
import Derived.Test.YtaoflcmjmhfblaaRc1
import Derived.Test.YtaoflcmjmhfblaaGSeq2
namespace Go.Proofs.Ytaoflcmjmhfblaa.C
open Go.RowKit Go.Proofs.YtaoflcmjmhfblaaW.PrintWords Go.Proofs.YtaoflcmjmhfblaaW.PrintLast Go.Proofs.YtaoflcmjmhfblaaW.PrintMore Go.Proofs.Ytaoflcmjmhfblaa.H
set_option linter.unusedVariables false
set_option linter.unusedSimpArgs false
/-- What a round leaves as it was: what lay in wb, and all cells but those of events. -/
structure KpG (base : Nat) (W W' : World) : Prop where
  below : Below base W W'
  cells : ∀ (k : Nat) (cs : Array Value) (ty : TypeId), W.heap[k]? = some (Obj.cells cs ty (0, 0)) → ty ≠ 43 → ty ≠ 25 → W'.heap[k]? = some (Obj.cells cs ty (0, 0))
theorem KpG.trans {base : Nat} {A B C : World} (h : KpG base A B) (k : KpG base B C) : KpG base A C := ⟨h.below.trans k.below, fun j cs ty hj h1 h2 => k.cells j cs ty (h.cells j cs ty hj h1 h2) h1 h2⟩
/-- What lies in memory: the two lists' headers, boxed. -/
structure MemC (wb : World) (g1 g2 : Nat) (c1 c2 : Value) (t1 t2 : Nat) (W : World) : Prop where
  below : Below wb.heap.size wb W
  b1 : W.heap[g1]? = some (.cells #[c1] t1 (0, 0))
  b2 : W.heap[g2]? = some (.cells #[c2] t2 (0, 0))
theorem MemC.keeps {wb W W' : World} {g1 g2 t1 t2 : Nat} {c1 c2 : Value} (h : MemC wb g1 g2 c1 c2 t1 t2 W) (k : KpG wb.heap.size W W') (n1 : t1 ≠ 43 ∧ t1 ≠ 25) (n2 : t2 ≠ 43 ∧ t2 ≠ 25) : MemC wb g1 g2 c1 c2 t1 t2 W' := ⟨h.below.trans k.below, k.cells _ _ _ h.b1 n1.1 n1.2, k.cells _ _ _ h.b2 n2.1 n2.2⟩
theorem MemC.later {wb W W' : World} {g1 g2 t1 t2 : Nat} {c1 c2 : Value} (h : MemC wb g1 g2 c1 c2 t1 t2 W) (k : Below W.heap.size W W') : MemC wb g1 g2 c1 c2 t1 t2 W' := ⟨below_step h.below k, blk_call k h.b1, blk_call k h.b2⟩
/-- The caller's invariant abides our own steps. -/
theorem abides_below {β : Type} {B : Nat} {J : β → World → Prop} (hJ : AbidesFrom B J) {s : β} {W W' : World} (h : J s W) (hb : Below W.heap.size W W') : J s W' := hJ s W W' none h (Below.grownBy hb) (fun r e => by cases e)
theorem uponInQ_of {n : Nat} {P : Program} {o : Oper} {a : Act} {Q Q' : Exit → Act → World → Prop} (hq : ∀ e a w, Q' e a w → Q e a w) (hno : ¬ LetsOut Q') {next next' : Act → World → Prop} (hn : ∀ a w, next' a w → next a w) {r : Result Next} (h : o.upon P a next' Q' r) : o.uponIn Fence.wide n P a next Q r := by
  match r, h with
  | .ok (.value v) w', h => exact hn _ _ h
  | .ok .skip w', h => exact hn _ _ h
  | .ok (.defer d) w', h => exact hn _ _ h
  | .ok (.enter f args) w', h =>
    refine ⟨(fun h => by cases h), callsIn_wide.2 (Calls.mono h ?_)⟩
    intro e w'' hh
    cases e with
    | returned v => exact hn _ _ hh
    | panicked chain => exact hq _ _ _ hh
    | outgrown => exact absurd hh hno
  | .ok (.row row args) w', h =>
    refine ⟨(fun h => by cases h), fun c cs _ => ?_⟩
    obtain ⟨v, w'', hr, hs⟩ := h c cs
    exact ⟨v, w'', hn _ _ hr, stepsIn_wide.2 hs⟩
  | .halt (.panic v) w', h => exact hq _ _ _ h
/-- A region's exit that is no outgrowing. -/
def NoOut (Q : Exit → Act → World → Prop) : Exit → Act → World → Prop := fun e a w => e ≠ .outgrown ∧ Q e a w
theorem noOut_lets {Q : Exit → Act → World → Prop} : ¬ LetsOut (NoOut Q) := fun ⟨_, _, h⟩ => h.1 rfl
/-- Operations within the wide fence, as everywhere. -/
theorem wpListInW_of {n : Nat} {P : Program} {ops : Array Oper} {Q : Exit → Act → World → Prop} : ∀ (rest : List Oper) (a : Act) (w : World), wpList P ops (NoOut Q) rest a w → wpListIn Fence.wide n P ops Q rest a w
  | [], a, w, h => h.2
  | o :: rest, a, w, h => by
    unfold wpList at h
    unfold wpListIn
    by_cases hw : Region.wanted o (yielded ops a.tmps) = true
    · rw [if_pos hw] at h ⊢
      rcases h with h | ⟨_, h⟩
      · exact ⟨fun _ _ => trivial, uponInQ_of (fun _ _ _ h => h.2) noOut_lets (fun a w => wpListInW_of rest a w) h⟩
      · exact absurd h noOut_lets
    · rw [if_neg hw] at h ⊢
      exact ⟨fun _ _ => trivial, wpListInW_of rest _ _ h⟩
/-- The walk stops here. -/
structure StopW (p : Prop) : Prop where
  go : p
theorem stop_list {F : Fence} {n : Nat} {P : Program} {ops : Array Oper} {Q : Exit → Act → World → Prop} {rest : List Oper} {a : Act} {w : World} (h : StopW (wpListIn F n P ops Q rest a w)) : wpListIn F n P ops Q rest a w := h.go
/-- The world is given a name. -/
theorem gen_wIn {F : Fence} {n : Nat} {P : Program} {c : Code} {Q : Exit → Act → World → Prop} {a : Act} {w : World} (G : World → Prop) (hG : G w) (h : ∀ W, G W → c.wpIn F n P Q a W) : c.wpIn F n P Q a w := h w hG
def comeT (T : List TolV) (L : List InV) : List EvV := comeL (fun i : InV => i.id) (fun i => i.state) T L
/-- The world of a list of operations is given a name. -/
theorem gen_wlIn {F : Fence} {n : Nat} {P : Program} {ops : Array Oper} {rest : List Oper} {Q : Exit → Act → World → Prop} {a : Act} {w : World} (G : World → Prop) (hG : G w) (h : ∀ W, G W → wpListIn F n P ops Q rest a W) : wpListIn F n P ops Q rest a w := h w hG
theorem load_any_g {P : Program} {ops : Array Oper} {rest : List Oper} {o : Oper} {a : Act} {w : World} {Q : Exit → Act → World → Prop} (hw : Region.wanted o (yielded ops a.tmps) = true) (ty : TypeId) (x : Operand) (ho : o.op = .load ty x)
    (p : Addr) (hx : a.eval x = .pointer (some p)) (cs : List Value) (d : TypeDesc) (hc : ∀ j v, cs[j]? = some v → w.cell? (p.add j) = some v)
    (hu : P.underlying ty = some d) (hd : d.isRow = true) (hi : (P.info? ty).map (·.size) = some cs.length)
    (h : wpList P ops Q rest (a.put o.dst (.agg cs.toArray)) w) : wpList P ops Q (o :: rest) a w :=
  wpList_step fun K hK => by
    rw [if_pos hw]
    have hv := run_load_any (P := P) (w := w) ty p cs d hc hu hd hi
    unfold Oper.wp execOp
    simp only [ho, hx, Sem.run_bind, Result.andThen_ok, hv]
    exact hK _ _ h
theorem add_fC (ad : Addr) (m j : Nat) (hj : 0 < j) : (ad.add m).add j = ⟨(ad.add m).block, (ad.add m).off + j, none⟩ := by
  unfold Addr.add
  by_cases h : m = 0
  · subst h
    have : ¬ j = 0 := by omega
    simp [this]
  · have : ¬ j = 0 := by omega
    simp [this, h]
set_option maxHeartbeats 1000000 in
theorem waits_calls (i : InV) (w : World) : Calls Try.prog 142 #[.agg i.cells] w fun e w' => e = .returned (.bool (waitsI i.state)) ∧ Below w.heap.size w w' := by
  obtain ⟨i0, i1, i2, i3, i4, i5, i6, i7, i8, i9, i10, i11⟩ := i
  simp only [InV.cells]
  obtain ⟨b, hb⟩ : ∃ b, waitsI i5 = b := ⟨_, rfl⟩
  rw [hb]
  have HB := Lib.hid hb
  clear hb
  go_enter Try.func142, Try.ntmps142
  go_wp2_with fail
  all_goals (go_ret; refine ⟨ret_b ?_, below_alloc (Below.refl _ _) _⟩; rw [← HB.out]; unfold waitsI; simp [*])
theorem look_known {L : List InV} {x : Int} {k nL : Nat} (hn : L.length = nL) (hinc : ∀ i j, i < j → j < nL → (L.getD i noInst).id < (L.getD j noInst).id) (hlt : ∀ j, j < k → (L.getD j noInst).id < x) (hk : k < nL) (he : (L.getD k noInst).id = x) : lookI (fun i : InV => i.id) L x = some (L.getD k noInst) := by
  subst hn
  rw [lookI_at (iid := fun i : InV => i.id) noInst hlt (fun _ => Int.le_of_eq he.symm) hinc, if_pos ⟨hk, he⟩]
theorem look_unknown {L : List InV} {x : Int} {k nL : Nat} (hn : L.length = nL) (hinc : ∀ i j, i < j → j < nL → (L.getD i noInst).id < (L.getD j noInst).id) (hlt : ∀ j, j < k → (L.getD j noInst).id < x) (hge : k < nL → x < (L.getD k noInst).id) : lookI (fun i : InV => i.id) L x = none := by
  subst hn
  rw [lookI_at (iid := fun i : InV => i.id) noInst hlt (fun h => Int.le_of_lt (hge h)) hinc, if_neg (fun h => by have := hge h.1; have := h.2; omega)]
theorem come_step {T : List TolV} {L : List InV} {i : Nat} {t : TolV} (ht : T.getD i noTol = t) (hi : i < T.length) : comeT (T.take (i + 1)) L = comeT (T.take i) L ++ evOf (fun i : InV => i.state) (lookI (fun i : InV => i.id) L t.id) t := by
  have e : T.take (i + 1) = T.take i ++ [t] := by
    rw [List.take_add_one, List.getElem?_eq_getElem hi]
    rw [List.getD_eq_getElem?_getD, List.getElem?_eq_getElem hi] at ht
    simp only [Option.getD_some] at ht
    rw [ht]
    rfl
  unfold comeT comeL
  rw [e, List.flatMap_append]
  simp
theorem come_len (T : List TolV) (L : List InV) (j : Nat) : (comeT (T.take j) L).length ≤ (comeT T L).length := by
  have e : comeT T L = comeT (T.take j) L ++ comeT (T.drop j) L := by
    unfold comeT comeL
    rw [← List.flatMap_append, List.take_append_drop]
  rw [e, List.length_append]
  omega
set_option maxHeartbeats 8000000 in
set_option maxRecDepth 100000 in
theorem come1_stops {g1 g2 n N nT nL cT cL : Nat} {AT AL : Option Addr} {T : List TolV} {L : List InV} {wb w0 : World} (hn : 1 ≤ n) (hT : kTol.C wb AT nT T) (hL : kInst.C wb AL nL L)
    (hM : MemC wb g1 g2 (.slice AT nT cT) (.slice AL nL cL) 22 23 w0) (hiT : ∀ i j, i < j → j < nT → (T.getD i noTol).id < (T.getD j noTol).id) (hiL : ∀ i j, i < j → j < nL → (L.getD i noInst).id < (L.getD j noInst).id)
    (hN : (comeT T L).length ≤ N) :
    SeqStopsK Fence.wide n Try.prog 141 #[.pointer (some ⟨g1, 0, none⟩), .pointer (some ⟨g2, 0, none⟩)] (fun e : EvV => #[.agg e.cells]) (KpG wb.heap.size) (fun ys => ys = comeT T L) (fun _ => True) N w0 := by
  intro l J Jx W hW hJ hJx hY h0
  have hMW := hM.later hW
  clear hM hW
  have hm1 := Kd.C_max hT
  have hm2 := Kd.C_max hL
  have HT := Lib.hid hT
  have HL := Lib.hid hL
  have HIT := Lib.hid hiT
  have HIL := Lib.hid hiL
  have HJ := Lib.hid hJ
  have HJx := Lib.hid hJx
  have HY := Lib.hid hY
  have HN := Lib.hid hN
  have hc1 : W.cell? ⟨g1, 0, none⟩ = some (.slice AT nT cT) := (blk_cell hMW.b1 0).trans rfl
  have HM := Lib.hid hMW
  have H0 := Lib.hid h0
  clear hT hL hiT hiL hJ hJx hY hN hMW h0
  simp only [List.push_toArray, List.append_toArray, List.cons_append, List.nil_append]
  refine callsIn_of_wp Try.func141 rfl trivial ?_ rfl
  simp only [Try.ntmps141, List.size_toArray, List.length_cons, List.length_nil, Nat.reduceAdd, Nat.reduceSub, Array.replicate_succ, Array.replicate_zero, List.push_toArray, List.append_toArray, List.nil_append, List.cons_append]
  gi_wp2
  gi_loopw [4, 10] (fun v4 v10 wr => ∃ i k : Nat, i ≤ nT ∧ k ≤ nL ∧ v10 = .int .i64 i ∧ v4 = .int .i64 k ∧ Hid (∀ j, j < k → i < nT → (L.getD j noInst).id < (T.getD i noTol).id) ∧ Hid (J (comeT (T.take i) L) wr) ∧ Hid (MemC wb g1 g2 (.slice AT nT cT) (.slice AL nL cL) 22 23 wr)) (fun _ v10 _ => nT - (intOf v10).toNat)
  case atStart => exact ⟨0, 0, Nat.zero_le _, Nat.zero_le _, rfl, rfl, Lib.hid (fun j h => absurd h (Nat.not_lt_zero _)), H0, HM⟩
  case round =>
    obtain ⟨i, k, hi, hk, rfl, rfl, HK, HJr, HMr⟩ := hrel
    clear hc1
    by_cases hlt : i < nT
    · obtain ⟨at_, eT, hcT⟩ := tol_at (Kd.C_below HT.out HMr.out.below) i hlt
      subst eT
      obtain ⟨t, ht⟩ : ∃ t, T.getD i noTol = t := ⟨_, rfl⟩
      rw [ht] at hcT
      have HCT := Lib.hid hcT
      have HTI := Lib.hid ht
      clear hcT ht
      have l1 : (i : Int) < (nT : Int) := by omega
      have l0 : (0 : Int) ≤ (i : Int) := by omega
      gi_wp2_with (refine stop_list ?_)
      refine ⟨wpListInW_of _ _ _ ?_⟩
      go_wp2_with fail
      refine ⟨(fun h => by cases h), ?_⟩
      gi_wp2_with (refine stop_list ?_)
      refine ⟨wpListInW_of _ _ _ ?_⟩
      go_wp2_with (first
        | ((with_reducible refine gate_storeT 45 rfl ?_); refine bx_row rfl 45 (.tmp 6) (.tmp 13) rfl wr.heap.size rfl t.cells rfl 45 noTol.cells (heap_alloc_new _ _) (by kernel_rfl) (by rfl) (by simp [TolV.cells, Value.oneCell']) (below_alloc (Below.refl wr.heap.size wr) _) (Nat.le_refl _) ?_; intro w1 hx hsz hoth hbb; have HX := Lib.hid hx; have HB1 := Lib.hid hbb; clear hx hsz hoth hbb)
        | ((with_reducible refine gate_load 45 rfl ?_); refine wpList_load_any rfl 45 _ rfl _ rfl t.cells.toList _ HCT.out Try.underlying45 rfl (by kernel_rfl) ?_))
      refine ⟨(fun h => by cases h), ?_⟩
      clear HCT
      gi_wp2_with (refine stop_list ?_)
      have HJ1 : Hid (J (comeT (T.take i) L) w1) := Lib.hid (abides_below HJ.out HJr.out HB1.out)
      have HM1 := Lib.hid (HMr.out.later HB1.out)
      have hx0 : w1.cell? ⟨wr.heap.size, 0, none⟩ = some (.int .u64 t.id) := (blk_cell HX.out 0).trans rfl
      have hx1 : w1.cell? ⟨wr.heap.size, 1, none⟩ = some (.int .u64 t.token) := (blk_cell HX.out 1).trans rfl
      have hx2 : w1.cell? ⟨wr.heap.size, 2, none⟩ = some (.int .u8 t.state) := (blk_cell HX.out 2).trans rfl
      have hc2 : w1.cell? ⟨g2, 0, none⟩ = some (.slice AL nL cL) := (blk_cell HM1.out.b2 0).trans rfl
      gi_loopw [4] (fun v4 wq => ∃ k q : Nat, k ≤ nL ∧ v4 = .int .i64 k ∧ wq = w1.drewN q ∧ Hid (∀ j, j < k → (L.getD j noInst).id < t.id)) (fun v4 _ => nL - (intOf v4).toNat)
      case atStart => exact ⟨k, 0, hk, rfl, rfl, Lib.hid (fun j hj => by have := HK.out j hj hlt; rw [HTI.out] at this; exact this)⟩
      case round =>
        obtain ⟨k2, q, hk2, rfl, rfl, HK2⟩ := hrel
        clear HK
        have HK3 := Lib.hid (show ∀ j, j < k2 → i + 1 < nT → (L.getD j noInst).id < (T.getD (i + 1) noTol).id from fun j hj hi1 => by have h1 := HK2.out j hj; have h2 := HIT.out i (i + 1) (by omega) hi1; rw [HTI.out] at h2; omega)
        by_cases hlk : k2 < nL
        · obtain ⟨al, eL, hcL⟩ := inst_at HL.out k2 hlk
          subst eL
          obtain ⟨i0, hi0⟩ : ∃ i0, L.getD k2 noInst = i0 := ⟨_, rfl⟩
          rw [hi0] at hcL
          have HCL := Lib.hid hcL
          have HI0 := Lib.hid hi0
          have hid0 := (HM1.out.below.cell (World.block_lt_of_cell? _ _ (HCL.out 0 _ rfl))).trans (HCL.out 0 _ rfl)
          rw [add_zero'] at hid0
          clear hcL hi0
          obtain ⟨y, hy⟩ : ∃ y, i0.id = y := ⟨_, rfl⟩
          have HYI := Lib.hid hy
          have hid : w1.cell? (al.add (k2 * 12)) = some (.int .u64 y) := by rw [← hy]; exact hid0
          clear hy hid0
          have hl1 : (k2 : Int) < (nL : Int) := by omega
          have hl0 : (0 : Int) ≤ (k2 : Int) := by omega
          by_cases hly : y < t.id
          · gi_wp2
            refine wpIn_wide.2 ?_
            go_quiet (fail)
            gi_wp2
            exact ⟨⟨k2 + 1, _, by omega, by go_num, by first | rfl | (rw [World.drewN_drewN]), Lib.hid (fun j hj => by
              by_cases e : j = k2
              · subst e; rw [HI0.out, HYI.out]; exact hly
              · exact HK2.out j (by omega))⟩, by simp only [intOf]; omega⟩
          · gi_wp2
            refine wpIn_wide.2 ?_
            go_quiet (fail)
            gi_wp2
            by_cases hye : y = t.id
            · have hyb : (y == t.id) = true := by simp [hye]
              have hlook := look_known HL.out.1 HIL.out HK2.out hlk (by rw [HI0.out, HYI.out, hye])
              rw [HI0.out] at hlook
              clear hye
              refine wpIn_wide.2 ?_
              go_quiet (fail)
              gi_wp2_with (refine stop_list ?_)
              refine ⟨gen_wlIn (fun V => Below w1.heap.size w1 V) (pw_below_drewN (pw_below_drewN (pw_below_drewN (Below.refl _ _) _) _) _) fun w2 hb2 => ?_⟩
              have HJ1 := Lib.hid (abides_below HJ.out HJ1.out hb2)
              have HX := Lib.hid (blk_call hb2 HX.out)
              have HM1 := Lib.hid (HM1.out.later hb2)
              clear hb2 hx0 hx1 hx2 hc2
              clear hid
              have HLK := Lib.hid (show lookI (fun i : InV => i.id) L t.id = some i0 from hlook)
              clear hlook
              have hx0 : w2.cell? ⟨wr.heap.size, 0, none⟩ = some (.int .u64 t.id) := (blk_cell HX.out 0).trans rfl
              have hx1 : w2.cell? ⟨wr.heap.size, 1, none⟩ = some (.int .u64 t.token) := (blk_cell HX.out 1).trans rfl
              have hx2 : w2.cell? ⟨wr.heap.size, 2, none⟩ = some (.int .u8 t.state) := (blk_cell HX.out 2).trans rfl
              have hc2 : w2.cell? ⟨g2, 0, none⟩ = some (.slice (some al) nL cL) := (blk_cell HM1.out.b2 0).trans rfl
              refine wpListInW_of _ _ _ ?_
              go_wp2_with fail
              refine ⟨(fun h => by cases h), ?_⟩
              by_cases hs2 : t.state = 2
              · have hs2b : (t.state == 2) = true := by simp [hs2]
                have KW := Lib.hid (fun W => waits_calls i0 W)
                have HCW := Lib.hid (show ∀ j v, i0.cells.toList[j]? = some v → w2.cell? ((al.add (k2 * 12)).add j) = some v from fun j v hj => (HM1.out.below.cell (World.block_lt_of_cell? _ _ (HCL.out j v hj))).trans (HCL.out j v hj))
                obtain ⟨wb', hwb⟩ : ∃ b, waitsI i0.state = b := ⟨_, rfl⟩
                rw [hwb] at KW
                cases wb'
                · have HSTEP := Lib.hid (show comeT (T.take (i + 1)) L = comeT (T.take i) L ++ [] by rw [come_step HTI.out (by rw [HT.out.1]; exact hlt), HLK.out]; unfold evOf; simp [hs2, hwb])
                  have HLEN := Lib.hid (show (comeT (T.take i) L).length + ([] : List EvV).length ≤ N by have h1 := come_len T L (i + 1); rw [HSTEP.out, List.length_append] at h1; have h2 := HN.out; omega)
                  have hs3b : (t.state == 3) = false := by simp [hs2]
                  clear hs2 hwb
                  gi_wp2_with (refine stop_list ?_)
                  refine ⟨wpListInW_of _ _ _ ?_⟩
                  go_wp2_with (first | (go_at_call 142; refine (KW.out _).mono ?_; rintro e w3 ⟨rfl, hb3⟩) | ((with_reducible refine gate_load 34 rfl ?_); refine load_any_g (by rfl) 34 _ rfl _ rfl i0.cells.toList _ HCW.out Try.underlying34 rfl (by kernel_rfl) ?_))
                  refine ⟨(fun h => by cases h), ?_⟩
                  have HJ1 := Lib.hid (abides_below HJ.out HJ1.out hb3)
                  have HX := Lib.hid (blk_call hb3 HX.out)
                  have HM1 := Lib.hid (HM1.out.later hb3)
                  clear hb3 hx0 hx1 hx2 hc2
                  have hx0 : w3.cell? ⟨wr.heap.size, 0, none⟩ = some (.int .u64 t.id) := (blk_cell HX.out 0).trans rfl
                  have hx1 : w3.cell? ⟨wr.heap.size, 1, none⟩ = some (.int .u64 t.token) := (blk_cell HX.out 1).trans rfl
                  have hx2 : w3.cell? ⟨wr.heap.size, 2, none⟩ = some (.int .u8 t.state) := (blk_cell HX.out 2).trans rfl
                  have hc2 : w3.cell? ⟨g2, 0, none⟩ = some (.slice (some al) nL cL) := (blk_cell HM1.out.b2 0).trans rfl
                  gi_wp2_with (refine stop_list ?_)
                  refine ⟨wpListInW_of _ _ _ ?_⟩
                  go_wp2_with fail
                  refine ⟨(fun h => by cases h), ?_⟩
                  gi_wp2
                  exact ⟨⟨i + 1, k2, by omega, hk2, by go_num, rfl, HK3, Lib.hid (by rw [HSTEP.out]; rw [List.append_nil]; exact HJ1.out), HM1⟩, by simp only [intOf]; omega⟩
                · have HSTEP := Lib.hid (show comeT (T.take (i + 1)) L = comeT (T.take i) L ++ [⟨12, 0, t.id⟩] by rw [come_step HTI.out (by rw [HT.out.1]; exact hlt), HLK.out]; unfold evOf; simp [hs2, hwb])
                  have HLEN := Lib.hid (show (comeT (T.take i) L).length + ([⟨12, 0, t.id⟩] : List EvV).length ≤ N by have h1 := come_len T L (i + 1); rw [HSTEP.out, List.length_append] at h1; have h2 := HN.out; omega)
                  clear hs2 hwb
                  gi_wp2_with (refine stop_list ?_)
                  refine ⟨wpListInW_of _ _ _ ?_⟩
                  go_wp2_with (first | (go_at_call 142; refine (KW.out _).mono ?_; rintro e w3 ⟨rfl, hb3⟩) | ((with_reducible refine gate_load 34 rfl ?_); refine load_any_g (by rfl) 34 _ rfl _ rfl i0.cells.toList _ HCW.out Try.underlying34 rfl (by kernel_rfl) ?_))
                  refine ⟨(fun h => by cases h), ?_⟩
                  have HJ1 := Lib.hid (abides_below HJ.out HJ1.out hb3)
                  have HX := Lib.hid (blk_call hb3 HX.out)
                  have HM1 := Lib.hid (HM1.out.later hb3)
                  clear hb3 hx0 hx1 hx2 hc2
                  have hx0 : w3.cell? ⟨wr.heap.size, 0, none⟩ = some (.int .u64 t.id) := (blk_cell HX.out 0).trans rfl
                  have hx1 : w3.cell? ⟨wr.heap.size, 1, none⟩ = some (.int .u64 t.token) := (blk_cell HX.out 1).trans rfl
                  have hx2 : w3.cell? ⟨wr.heap.size, 2, none⟩ = some (.int .u8 t.state) := (blk_cell HX.out 2).trans rfl
                  have hc2 : w3.cell? ⟨g2, 0, none⟩ = some (.slice (some al) nL cL) := (blk_cell HM1.out.b2 0).trans rfl
                  have hln : (comeT (T.take i) L).length < N := by have h1 := HLEN.out; simp only [List.length_append, List.length_cons, List.length_nil] at h1 ⊢; omega
                  obtain ⟨fn, tmps, assign, body, hy, hR⟩ := HY.out (comeT (T.take i) L) ⟨12, 0, t.id⟩ w3 HJ1.out hln
                  clear hln
                  simp only [EvV.cells] at hy
                  have HR := Lib.hid hR
                  clear hR
                  gi_wp2
                  refine HR.out.mono ?_
                  rintro e w4 (⟨rfl, hJ3, hk3⟩ | ⟨rfl, hJx3⟩)
                  rotate_left 1
                  · gi_wp2
                    refine bodyPost_ret (results_none rfl _ _ _) rfl ?_
                    exact ⟨⟨_, rfl⟩, .inr ⟨_, trivial, hJx3⟩⟩
                  have HJ1 := Lib.hid hJ3
                  have HX := Lib.hid (hk3.cells _ _ _ HX.out (by decide) (by decide))
                  have HM1 := Lib.hid (HM1.out.keeps hk3 ⟨by decide, by decide⟩ ⟨by decide, by decide⟩)
                  clear hJ3 hk3 hy HR hx0 hx1 hx2 hc2
                  gi_wp2
                  exact ⟨⟨i + 1, k2, by omega, hk2, by go_num, rfl, HK3, Lib.hid (by rw [HSTEP.out]; exact HJ1.out), HM1⟩, by simp only [intOf]; omega⟩
              · have hs2b : (t.state == 2) = false := by simp [hs2]
                by_cases hs3 : t.state = 3
                · have hs3b : (t.state == 3) = true := by simp [hs3]
                  have hst : w2.cell? ⟨(al.add (k2 * 12)).block, (al.add (k2 * 12)).off + 5, none⟩ = some (.int .u8 i0.state) := by
                    have h := (HM1.out.below.cell (World.block_lt_of_cell? _ _ (HCL.out 5 _ rfl))).trans (HCL.out 5 _ rfl)
                    rw [add_fC _ _ _ (by omega)] at h
                    exact h
                  by_cases h7 : i0.state = 7
                  · have h7b : (i0.state == 7) = true := by simp [h7]
                    have HSTEP := Lib.hid (show comeT (T.take (i + 1)) L = comeT (T.take i) L ++ [⟨16, 0, t.id⟩] by rw [come_step HTI.out (by rw [HT.out.1]; exact hlt), HLK.out]; unfold evOf; simp [hs2, hs3, h7])
                    have HLEN := Lib.hid (show (comeT (T.take i) L).length + ([⟨16, 0, t.id⟩] : List EvV).length ≤ N by have h1 := come_len T L (i + 1); rw [HSTEP.out, List.length_append] at h1; have h2 := HN.out; omega)
                    clear hs2 hs3 h7
                    gi_wp2_with (refine stop_list ?_)
                    refine ⟨wpListInW_of _ _ _ ?_⟩
                    go_wp2_with fail
                    refine ⟨(fun h => by cases h), ?_⟩
                    gi_wp2_with (refine stop_list ?_)
                    refine ⟨wpListInW_of _ _ _ ?_⟩
                    go_wp2_with fail
                    refine ⟨(fun h => by cases h), ?_⟩
                    clear hst
                    have hln : (comeT (T.take i) L).length < N := by have h1 := HLEN.out; simp only [List.length_append, List.length_cons, List.length_nil] at h1 ⊢; omega
                    obtain ⟨fn, tmps, assign, body, hy, hR⟩ := HY.out (comeT (T.take i) L) ⟨16, 0, t.id⟩ w2 HJ1.out hln
                    clear hln
                    simp only [EvV.cells] at hy
                    have HR := Lib.hid hR
                    clear hR
                    gi_wp2
                    refine HR.out.mono ?_
                    rintro e w4 (⟨rfl, hJ3, hk3⟩ | ⟨rfl, hJx3⟩)
                    rotate_left 1
                    · gi_wp2
                      refine bodyPost_ret (results_none rfl _ _ _) rfl ?_
                      exact ⟨⟨_, rfl⟩, .inr ⟨_, trivial, hJx3⟩⟩
                    have HJ1 := Lib.hid hJ3
                    have HX := Lib.hid (hk3.cells _ _ _ HX.out (by decide) (by decide))
                    have HM1 := Lib.hid (HM1.out.keeps hk3 ⟨by decide, by decide⟩ ⟨by decide, by decide⟩)
                    clear hJ3 hk3 hy HR hx0 hx1 hx2 hc2
                    gi_wp2
                    exact ⟨⟨i + 1, k2, by omega, hk2, by go_num, rfl, HK3, Lib.hid (by rw [HSTEP.out]; exact HJ1.out), HM1⟩, by simp only [intOf]; omega⟩
                  · have h7b : (i0.state == 7) = false := by simp [h7]
                    have HSTEP := Lib.hid (show comeT (T.take (i + 1)) L = comeT (T.take i) L ++ [] by rw [come_step HTI.out (by rw [HT.out.1]; exact hlt), HLK.out]; unfold evOf; simp [hs2, hs3, h7])
                    have HLEN := Lib.hid (show (comeT (T.take i) L).length + ([] : List EvV).length ≤ N by have h1 := come_len T L (i + 1); rw [HSTEP.out, List.length_append] at h1; have h2 := HN.out; omega)
                    clear hs2 hs3 h7
                    gi_wp2_with (refine stop_list ?_)
                    refine ⟨wpListInW_of _ _ _ ?_⟩
                    go_wp2_with fail
                    refine ⟨(fun h => by cases h), ?_⟩
                    gi_wp2_with (refine stop_list ?_)
                    refine ⟨wpListInW_of _ _ _ ?_⟩
                    go_wp2_with fail
                    refine ⟨(fun h => by cases h), ?_⟩
                    gi_wp2
                    exact ⟨⟨i + 1, k2, by omega, hk2, by go_num, rfl, HK3, Lib.hid (by rw [HSTEP.out]; rw [List.append_nil]; exact HJ1.out), HM1⟩, by simp only [intOf]; omega⟩
                · have hs3b : (t.state == 3) = false := by simp [hs3]
                  have HSTEP := Lib.hid (show comeT (T.take (i + 1)) L = comeT (T.take i) L ++ [] by rw [come_step HTI.out (by rw [HT.out.1]; exact hlt), HLK.out]; unfold evOf; simp [hs2, hs3])
                  have HLEN := Lib.hid (show (comeT (T.take i) L).length + ([] : List EvV).length ≤ N by have h1 := come_len T L (i + 1); rw [HSTEP.out, List.length_append] at h1; have h2 := HN.out; omega)
                  clear hs2 hs3
                  gi_wp2_with (refine stop_list ?_)
                  refine ⟨wpListInW_of _ _ _ ?_⟩
                  go_wp2_with fail
                  refine ⟨(fun h => by cases h), ?_⟩
                  gi_wp2_with (refine stop_list ?_)
                  refine ⟨wpListInW_of _ _ _ ?_⟩
                  go_wp2_with fail
                  refine ⟨(fun h => by cases h), ?_⟩
                  gi_wp2
                  exact ⟨⟨i + 1, k2, by omega, hk2, by go_num, rfl, HK3, Lib.hid (by rw [HSTEP.out]; rw [List.append_nil]; exact HJ1.out), HM1⟩, by simp only [intOf]; omega⟩
            · have hyb : (y == t.id) = false := by simp [hye]
              have hlook := look_unknown HL.out.1 HIL.out HK2.out (fun _ => by rw [HI0.out, HYI.out]; omega)
              clear hye
              refine wpIn_wide.2 ?_
              go_quiet (fail)
              gi_wp2_with (refine stop_list ?_)
              refine ⟨gen_wlIn (fun V => Below w1.heap.size w1 V) (pw_below_drewN (pw_below_drewN (pw_below_drewN (Below.refl _ _) _) _) _) fun w2 hb2 => ?_⟩
              have HJ1 := Lib.hid (abides_below HJ.out HJ1.out hb2)
              have HX := Lib.hid (blk_call hb2 HX.out)
              have HM1 := Lib.hid (HM1.out.later hb2)
              clear hb2 hx0 hx1 hx2 hc2
              clear hid
              have HLK := Lib.hid (show lookI (fun i : InV => i.id) L t.id = none from hlook)
              clear hlook
              by_cases hs2 : t.state = 2
              · have hs2b : (t.state == 2) = true := by simp [hs2]
                have HSTEP := Lib.hid (show comeT (T.take (i + 1)) L = comeT (T.take i) L ++ [⟨10, t.token, t.id⟩, ⟨12, 0, t.id⟩] by rw [come_step HTI.out (by rw [HT.out.1]; exact hlt), HLK.out]; unfold evOf; simp [hs2])
                have HLEN := Lib.hid (show (comeT (T.take i) L).length + ([⟨10, t.token, t.id⟩, ⟨12, 0, t.id⟩] : List EvV).length ≤ N by have h1 := come_len T L (i + 1); rw [HSTEP.out, List.length_append] at h1; have h2 := HN.out; omega)
                clear hs2
                have hx0 : w2.cell? ⟨wr.heap.size, 0, none⟩ = some (.int .u64 t.id) := (blk_cell HX.out 0).trans rfl
                have hx1 : w2.cell? ⟨wr.heap.size, 1, none⟩ = some (.int .u64 t.token) := (blk_cell HX.out 1).trans rfl
                have hx2 : w2.cell? ⟨wr.heap.size, 2, none⟩ = some (.int .u8 t.state) := (blk_cell HX.out 2).trans rfl
                have hc2 : w2.cell? ⟨g2, 0, none⟩ = some (.slice (some al) nL cL) := (blk_cell HM1.out.b2 0).trans rfl
                have hln : (comeT (T.take i) L).length < N := by have h1 := HLEN.out; simp only [List.length_append, List.length_cons, List.length_nil] at h1 ⊢; omega
                obtain ⟨fn, tmps, assign, body, hy, hR⟩ := HY.out (comeT (T.take i) L) ⟨10, t.token, t.id⟩ w2 HJ1.out hln
                clear hln
                simp only [EvV.cells] at hy
                have HR := Lib.hid hR
                clear hR
                gi_wp2
                refine HR.out.mono ?_
                rintro e w3 (⟨rfl, hJ3, hk3⟩ | ⟨rfl, hJx3⟩)
                rotate_left 1
                · gi_wp2
                  refine bodyPost_ret (results_none rfl _ _ _) rfl ?_
                  exact ⟨⟨_, rfl⟩, .inr ⟨_, trivial, hJx3⟩⟩
                have HJ1 := Lib.hid hJ3
                have HX := Lib.hid (hk3.cells _ _ _ HX.out (by decide) (by decide))
                have HM1 := Lib.hid (HM1.out.keeps hk3 ⟨by decide, by decide⟩ ⟨by decide, by decide⟩)
                clear hJ3 hk3 hy HR hx0 hx1 hx2 hc2
                have hx0 : w3.cell? ⟨wr.heap.size, 0, none⟩ = some (.int .u64 t.id) := (blk_cell HX.out 0).trans rfl
                have hx1 : w3.cell? ⟨wr.heap.size, 1, none⟩ = some (.int .u64 t.token) := (blk_cell HX.out 1).trans rfl
                have hx2 : w3.cell? ⟨wr.heap.size, 2, none⟩ = some (.int .u8 t.state) := (blk_cell HX.out 2).trans rfl
                have hc2 : w3.cell? ⟨g2, 0, none⟩ = some (.slice (some al) nL cL) := (blk_cell HM1.out.b2 0).trans rfl
                gi_wp2_with (refine stop_list ?_)
                refine ⟨wpListInW_of _ _ _ ?_⟩
                go_wp2_with fail
                refine ⟨(fun h => by cases h), ?_⟩
                gi_wp2_with (refine stop_list ?_)
                refine ⟨wpListInW_of _ _ _ ?_⟩
                go_wp2_with fail
                refine ⟨(fun h => by cases h), ?_⟩
                have hln : (comeT (T.take i) L ++ ([⟨10, t.token, t.id⟩] : List EvV)).length < N := by have h1 := HLEN.out; simp only [List.length_append, List.length_cons, List.length_nil] at h1 ⊢; omega
                obtain ⟨fn, tmps, assign, body, hy, hR⟩ := HY.out (comeT (T.take i) L ++ ([⟨10, t.token, t.id⟩] : List EvV)) ⟨12, 0, t.id⟩ w3 HJ1.out hln
                clear hln
                simp only [EvV.cells] at hy
                have HR := Lib.hid hR
                clear hR
                gi_wp2
                refine HR.out.mono ?_
                rintro e w4 (⟨rfl, hJ3, hk3⟩ | ⟨rfl, hJx3⟩)
                rotate_left 1
                · gi_wp2
                  refine bodyPost_ret (results_none rfl _ _ _) rfl ?_
                  exact ⟨⟨_, rfl⟩, .inr ⟨_, trivial, hJx3⟩⟩
                have HJ1 := Lib.hid hJ3
                have HX := Lib.hid (hk3.cells _ _ _ HX.out (by decide) (by decide))
                have HM1 := Lib.hid (HM1.out.keeps hk3 ⟨by decide, by decide⟩ ⟨by decide, by decide⟩)
                clear hJ3 hk3 hy HR hx0 hx1 hx2 hc2
                have HJ1 := Lib.hid (show J (comeT (T.take i) L ++ ([⟨10, t.token, t.id⟩, ⟨12, 0, t.id⟩] : List EvV)) w4 by have h := HJ1.out; rw [List.append_assoc] at h; exact h)
                gi_wp2
                exact ⟨⟨i + 1, k2, by omega, hk2, by go_num, rfl, HK3, Lib.hid (by rw [HSTEP.out]; exact HJ1.out), HM1⟩, by simp only [intOf]; omega⟩
              · have hs2b : (t.state == 2) = false := by simp [hs2]
                have HSTEP := Lib.hid (show comeT (T.take (i + 1)) L = comeT (T.take i) L ++ [⟨10, t.token, t.id⟩] by rw [come_step HTI.out (by rw [HT.out.1]; exact hlt), HLK.out]; unfold evOf; simp [hs2])
                have HLEN := Lib.hid (show (comeT (T.take i) L).length + ([⟨10, t.token, t.id⟩] : List EvV).length ≤ N by have h1 := come_len T L (i + 1); rw [HSTEP.out, List.length_append] at h1; have h2 := HN.out; omega)
                clear hs2
                have hx0 : w2.cell? ⟨wr.heap.size, 0, none⟩ = some (.int .u64 t.id) := (blk_cell HX.out 0).trans rfl
                have hx1 : w2.cell? ⟨wr.heap.size, 1, none⟩ = some (.int .u64 t.token) := (blk_cell HX.out 1).trans rfl
                have hx2 : w2.cell? ⟨wr.heap.size, 2, none⟩ = some (.int .u8 t.state) := (blk_cell HX.out 2).trans rfl
                have hc2 : w2.cell? ⟨g2, 0, none⟩ = some (.slice (some al) nL cL) := (blk_cell HM1.out.b2 0).trans rfl
                have hln : (comeT (T.take i) L).length < N := by have h1 := HLEN.out; simp only [List.length_append, List.length_cons, List.length_nil] at h1 ⊢; omega
                obtain ⟨fn, tmps, assign, body, hy, hR⟩ := HY.out (comeT (T.take i) L) ⟨10, t.token, t.id⟩ w2 HJ1.out hln
                clear hln
                simp only [EvV.cells] at hy
                have HR := Lib.hid hR
                clear hR
                gi_wp2
                refine HR.out.mono ?_
                rintro e w3 (⟨rfl, hJ3, hk3⟩ | ⟨rfl, hJx3⟩)
                rotate_left 1
                · gi_wp2
                  refine bodyPost_ret (results_none rfl _ _ _) rfl ?_
                  exact ⟨⟨_, rfl⟩, .inr ⟨_, trivial, hJx3⟩⟩
                have HJ1 := Lib.hid hJ3
                have HX := Lib.hid (hk3.cells _ _ _ HX.out (by decide) (by decide))
                have HM1 := Lib.hid (HM1.out.keeps hk3 ⟨by decide, by decide⟩ ⟨by decide, by decide⟩)
                clear hJ3 hk3 hy HR hx0 hx1 hx2 hc2
                have hx0 : w3.cell? ⟨wr.heap.size, 0, none⟩ = some (.int .u64 t.id) := (blk_cell HX.out 0).trans rfl
                have hx1 : w3.cell? ⟨wr.heap.size, 1, none⟩ = some (.int .u64 t.token) := (blk_cell HX.out 1).trans rfl
                have hx2 : w3.cell? ⟨wr.heap.size, 2, none⟩ = some (.int .u8 t.state) := (blk_cell HX.out 2).trans rfl
                have hc2 : w3.cell? ⟨g2, 0, none⟩ = some (.slice (some al) nL cL) := (blk_cell HM1.out.b2 0).trans rfl
                by_cases hs3 : t.state = 3
                · have hs3b : (t.state == 3) = true := by simp [hs3]
                  clear hs3
                  gi_wp2_with (refine stop_list ?_)
                  refine ⟨wpListInW_of _ _ _ ?_⟩
                  go_wp2_with fail
                  refine ⟨(fun h => by cases h), ?_⟩
                  gi_wp2_with (refine stop_list ?_)
                  refine ⟨wpListInW_of _ _ _ ?_⟩
                  go_wp2_with fail
                  refine ⟨(fun h => by cases h), ?_⟩
                  gi_wp2
                  exact ⟨⟨i + 1, k2, by omega, hk2, by go_num, rfl, HK3, Lib.hid (by rw [HSTEP.out]; exact HJ1.out), HM1⟩, by simp only [intOf]; omega⟩
                · have hs3b : (t.state == 3) = false := by simp [hs3]
                  clear hs3
                  gi_wp2_with (refine stop_list ?_)
                  refine ⟨wpListInW_of _ _ _ ?_⟩
                  go_wp2_with fail
                  refine ⟨(fun h => by cases h), ?_⟩
                  gi_wp2_with (refine stop_list ?_)
                  refine ⟨wpListInW_of _ _ _ ?_⟩
                  go_wp2_with fail
                  refine ⟨(fun h => by cases h), ?_⟩
                  gi_wp2
                  exact ⟨⟨i + 1, k2, by omega, hk2, by go_num, rfl, HK3, Lib.hid (by rw [HSTEP.out]; exact HJ1.out), HM1⟩, by simp only [intOf]; omega⟩
        · have hl1 : ¬ (k2 : Int) < (nL : Int) := by omega
          have hlook := look_unknown HL.out.1 HIL.out HK2.out (fun h => absurd h hlk)
          gi_wp2
          refine wpIn_wide.2 ?_
          go_quiet (fail)
          gi_wp2
          refine wpIn_wide.2 ?_
          go_quiet (fail)
          gi_wp2_with (refine stop_list ?_)
          refine ⟨gen_wlIn (fun V => Below w1.heap.size w1 V) (pw_below_drewN (pw_below_drewN (pw_below_drewN (Below.refl _ _) _) _) _) fun w2 hb2 => ?_⟩
          have HJ1 := Lib.hid (abides_below HJ.out HJ1.out hb2)
          have HX := Lib.hid (blk_call hb2 HX.out)
          have HM1 := Lib.hid (HM1.out.later hb2)
          clear hb2 hx0 hx1 hx2 hc2
          have HLK := Lib.hid (show lookI (fun i : InV => i.id) L t.id = none from hlook)
          clear hlook
          by_cases hs2 : t.state = 2
          · have hs2b : (t.state == 2) = true := by simp [hs2]
            have HSTEP := Lib.hid (show comeT (T.take (i + 1)) L = comeT (T.take i) L ++ [⟨10, t.token, t.id⟩, ⟨12, 0, t.id⟩] by rw [come_step HTI.out (by rw [HT.out.1]; exact hlt), HLK.out]; unfold evOf; simp [hs2])
            have HLEN := Lib.hid (show (comeT (T.take i) L).length + ([⟨10, t.token, t.id⟩, ⟨12, 0, t.id⟩] : List EvV).length ≤ N by have h1 := come_len T L (i + 1); rw [HSTEP.out, List.length_append] at h1; have h2 := HN.out; omega)
            clear hs2
            have hx0 : w2.cell? ⟨wr.heap.size, 0, none⟩ = some (.int .u64 t.id) := (blk_cell HX.out 0).trans rfl
            have hx1 : w2.cell? ⟨wr.heap.size, 1, none⟩ = some (.int .u64 t.token) := (blk_cell HX.out 1).trans rfl
            have hx2 : w2.cell? ⟨wr.heap.size, 2, none⟩ = some (.int .u8 t.state) := (blk_cell HX.out 2).trans rfl
            have hc2 : w2.cell? ⟨g2, 0, none⟩ = some (.slice AL nL cL) := (blk_cell HM1.out.b2 0).trans rfl
            have hln : (comeT (T.take i) L).length < N := by have h1 := HLEN.out; simp only [List.length_append, List.length_cons, List.length_nil] at h1 ⊢; omega
            obtain ⟨fn, tmps, assign, body, hy, hR⟩ := HY.out (comeT (T.take i) L) ⟨10, t.token, t.id⟩ w2 HJ1.out hln
            clear hln
            simp only [EvV.cells] at hy
            have HR := Lib.hid hR
            clear hR
            gi_wp2
            refine HR.out.mono ?_
            rintro e w3 (⟨rfl, hJ3, hk3⟩ | ⟨rfl, hJx3⟩)
            rotate_left 1
            · gi_wp2
              refine bodyPost_ret (results_none rfl _ _ _) rfl ?_
              exact ⟨⟨_, rfl⟩, .inr ⟨_, trivial, hJx3⟩⟩
            have HJ1 := Lib.hid hJ3
            have HX := Lib.hid (hk3.cells _ _ _ HX.out (by decide) (by decide))
            have HM1 := Lib.hid (HM1.out.keeps hk3 ⟨by decide, by decide⟩ ⟨by decide, by decide⟩)
            clear hJ3 hk3 hy HR hx0 hx1 hx2 hc2
            have hx0 : w3.cell? ⟨wr.heap.size, 0, none⟩ = some (.int .u64 t.id) := (blk_cell HX.out 0).trans rfl
            have hx1 : w3.cell? ⟨wr.heap.size, 1, none⟩ = some (.int .u64 t.token) := (blk_cell HX.out 1).trans rfl
            have hx2 : w3.cell? ⟨wr.heap.size, 2, none⟩ = some (.int .u8 t.state) := (blk_cell HX.out 2).trans rfl
            have hc2 : w3.cell? ⟨g2, 0, none⟩ = some (.slice AL nL cL) := (blk_cell HM1.out.b2 0).trans rfl
            gi_wp2_with (refine stop_list ?_)
            refine ⟨wpListInW_of _ _ _ ?_⟩
            go_wp2_with fail
            refine ⟨(fun h => by cases h), ?_⟩
            gi_wp2_with (refine stop_list ?_)
            refine ⟨wpListInW_of _ _ _ ?_⟩
            go_wp2_with fail
            refine ⟨(fun h => by cases h), ?_⟩
            have hln : (comeT (T.take i) L ++ ([⟨10, t.token, t.id⟩] : List EvV)).length < N := by have h1 := HLEN.out; simp only [List.length_append, List.length_cons, List.length_nil] at h1 ⊢; omega
            obtain ⟨fn, tmps, assign, body, hy, hR⟩ := HY.out (comeT (T.take i) L ++ ([⟨10, t.token, t.id⟩] : List EvV)) ⟨12, 0, t.id⟩ w3 HJ1.out hln
            clear hln
            simp only [EvV.cells] at hy
            have HR := Lib.hid hR
            clear hR
            gi_wp2
            refine HR.out.mono ?_
            rintro e w4 (⟨rfl, hJ3, hk3⟩ | ⟨rfl, hJx3⟩)
            rotate_left 1
            · gi_wp2
              refine bodyPost_ret (results_none rfl _ _ _) rfl ?_
              exact ⟨⟨_, rfl⟩, .inr ⟨_, trivial, hJx3⟩⟩
            have HJ1 := Lib.hid hJ3
            have HX := Lib.hid (hk3.cells _ _ _ HX.out (by decide) (by decide))
            have HM1 := Lib.hid (HM1.out.keeps hk3 ⟨by decide, by decide⟩ ⟨by decide, by decide⟩)
            clear hJ3 hk3 hy HR hx0 hx1 hx2 hc2
            have HJ1 := Lib.hid (show J (comeT (T.take i) L ++ ([⟨10, t.token, t.id⟩, ⟨12, 0, t.id⟩] : List EvV)) w4 by have h := HJ1.out; rw [List.append_assoc] at h; exact h)
            gi_wp2
            exact ⟨⟨i + 1, k2, by omega, hk2, by go_num, rfl, HK3, Lib.hid (by rw [HSTEP.out]; exact HJ1.out), HM1⟩, by simp only [intOf]; omega⟩
          · have hs2b : (t.state == 2) = false := by simp [hs2]
            have HSTEP := Lib.hid (show comeT (T.take (i + 1)) L = comeT (T.take i) L ++ [⟨10, t.token, t.id⟩] by rw [come_step HTI.out (by rw [HT.out.1]; exact hlt), HLK.out]; unfold evOf; simp [hs2])
            have HLEN := Lib.hid (show (comeT (T.take i) L).length + ([⟨10, t.token, t.id⟩] : List EvV).length ≤ N by have h1 := come_len T L (i + 1); rw [HSTEP.out, List.length_append] at h1; have h2 := HN.out; omega)
            clear hs2
            have hx0 : w2.cell? ⟨wr.heap.size, 0, none⟩ = some (.int .u64 t.id) := (blk_cell HX.out 0).trans rfl
            have hx1 : w2.cell? ⟨wr.heap.size, 1, none⟩ = some (.int .u64 t.token) := (blk_cell HX.out 1).trans rfl
            have hx2 : w2.cell? ⟨wr.heap.size, 2, none⟩ = some (.int .u8 t.state) := (blk_cell HX.out 2).trans rfl
            have hc2 : w2.cell? ⟨g2, 0, none⟩ = some (.slice AL nL cL) := (blk_cell HM1.out.b2 0).trans rfl
            have hln : (comeT (T.take i) L).length < N := by have h1 := HLEN.out; simp only [List.length_append, List.length_cons, List.length_nil] at h1 ⊢; omega
            obtain ⟨fn, tmps, assign, body, hy, hR⟩ := HY.out (comeT (T.take i) L) ⟨10, t.token, t.id⟩ w2 HJ1.out hln
            clear hln
            simp only [EvV.cells] at hy
            have HR := Lib.hid hR
            clear hR
            gi_wp2
            refine HR.out.mono ?_
            rintro e w3 (⟨rfl, hJ3, hk3⟩ | ⟨rfl, hJx3⟩)
            rotate_left 1
            · gi_wp2
              refine bodyPost_ret (results_none rfl _ _ _) rfl ?_
              exact ⟨⟨_, rfl⟩, .inr ⟨_, trivial, hJx3⟩⟩
            have HJ1 := Lib.hid hJ3
            have HX := Lib.hid (hk3.cells _ _ _ HX.out (by decide) (by decide))
            have HM1 := Lib.hid (HM1.out.keeps hk3 ⟨by decide, by decide⟩ ⟨by decide, by decide⟩)
            clear hJ3 hk3 hy HR hx0 hx1 hx2 hc2
            have hx0 : w3.cell? ⟨wr.heap.size, 0, none⟩ = some (.int .u64 t.id) := (blk_cell HX.out 0).trans rfl
            have hx1 : w3.cell? ⟨wr.heap.size, 1, none⟩ = some (.int .u64 t.token) := (blk_cell HX.out 1).trans rfl
            have hx2 : w3.cell? ⟨wr.heap.size, 2, none⟩ = some (.int .u8 t.state) := (blk_cell HX.out 2).trans rfl
            have hc2 : w3.cell? ⟨g2, 0, none⟩ = some (.slice AL nL cL) := (blk_cell HM1.out.b2 0).trans rfl
            by_cases hs3 : t.state = 3
            · have hs3b : (t.state == 3) = true := by simp [hs3]
              clear hs3
              gi_wp2_with (refine stop_list ?_)
              refine ⟨wpListInW_of _ _ _ ?_⟩
              go_wp2_with fail
              refine ⟨(fun h => by cases h), ?_⟩
              gi_wp2_with (refine stop_list ?_)
              refine ⟨wpListInW_of _ _ _ ?_⟩
              go_wp2_with fail
              refine ⟨(fun h => by cases h), ?_⟩
              gi_wp2
              exact ⟨⟨i + 1, k2, by omega, hk2, by go_num, rfl, HK3, Lib.hid (by rw [HSTEP.out]; exact HJ1.out), HM1⟩, by simp only [intOf]; omega⟩
            · have hs3b : (t.state == 3) = false := by simp [hs3]
              clear hs3
              gi_wp2_with (refine stop_list ?_)
              refine ⟨wpListInW_of _ _ _ ?_⟩
              go_wp2_with fail
              refine ⟨(fun h => by cases h), ?_⟩
              gi_wp2_with (refine stop_list ?_)
              refine ⟨wpListInW_of _ _ _ ?_⟩
              go_wp2_with fail
              refine ⟨(fun h => by cases h), ?_⟩
              gi_wp2
              exact ⟨⟨i + 1, k2, by omega, hk2, by go_num, rfl, HK3, Lib.hid (by rw [HSTEP.out]; exact HJ1.out), HM1⟩, by simp only [intOf]; omega⟩
    · have hie : i = nT := by omega
      have HIE := Lib.hid hie
      clear hie
      have l1 : ¬ (i : Int) < (nT : Int) := by have := HIE.out; omega
      gi_wp2
      go_end0
      exact ⟨⟨_, rfl⟩, .inl (by have h := HJr.out; rw [HIE.out, ← HT.out.1, List.take_length] at h; exact h)⟩
end Go.Proofs.Ytaoflcmjmhfblaa.C
