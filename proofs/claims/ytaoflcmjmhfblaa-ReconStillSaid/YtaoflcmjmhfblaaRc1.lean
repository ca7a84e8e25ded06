/- recon: events as rows; slices.AppendSeq at Event. -/
import Derived.Test.YtaoflcmjmhfblaaGSeq
import Derived.Great.Walk
import Derived.Test.YtaoflcmjmhfblaaRcP
namespace Go.Proofs.Ytaoflcmjmhfblaa.C
open Go.RowKit Go.Proofs.YtaoflcmjmhfblaaW.PrintWords Go.Proofs.YtaoflcmjmhfblaaW.PrintLast Go.Proofs.YtaoflcmjmhfblaaW.PrintMore Go.Proofs.Ytaoflcmjmhfblaa.H
set_option linter.unusedVariables false
set_option linter.unusedSimpArgs false
def EvV.cells (e : EvV) : Array Value := #[.int .u8 e.kind, .int .u64 e.token, .int .u64 e.id, .int .i64 0, .int .i64 0, .int .i64 0, .bool false, .int .u64 0, .slice none 0 0, .int .u8 0, .int .i64 0, .bool false, .int .i64 0, .int .i64 0, .int .i64 0, .int .i64 0, .int .i64 0, .int .i64 0, .int .u64 0, .int .u64 0, .int .u64 0, .int .u64 0, .int .u64 0, .int .u64 0, .bool false, .int .i64 0, .slice none 0 0, .slice none 0 0]
def kEv : Kd EvV := flatKd 28 (fun e => e.cells.toList) (fun _ => rfl) (fun x u hu => List.all_eq_true.1 (show x.cells.toList.all (·.oneCell') = true from by simp [EvV.cells, Value.oneCell']) u hu)
theorem infoEv : (Try.prog.info? 43).map (fun i => (i.zero, i.size, i.bytes)) = some (some (.agg zEv.cells), 28, 272) := by kernel_rfl
theorem typesEv : ∀ q, q ∈ 43 :: kEv.E → q ≠ 25 := by
  intro q hq
  have : q = 43 := by simpa [kEv, flatKd] using hq
  subst this
  decide
/-- R across a step that turns no cells of ours. -/
theorem R_own {W W' : World} {row : Option Nat} {v : Value} {xs : List EvV} {base : Nat} (h : kEv.R 43 W base (fun _ => True) v xs) (hg : W.grownBy W' row) (hr : ∀ r, row = some r → ∃ o : Obj, W.heap[r]? = some o ∧ o.isCells = false) : kEv.R 43 W' base (fun _ => True) v xs := by
  refine Kd.R_mono (Kd.R_step (Kd.R_bound h) (fun k hk hlt => hg.block k hlt (fun e => ?_))) (fun _ _ => trivial)
  obtain ⟨o, ho, hc⟩ := hr k e.symm
  obtain ⟨q, _, cells, hcl⟩ := hk.2.2.2
  rw [hcl] at ho
  cases ho
  cases hc
set_option maxHeartbeats 4000000 in
set_option maxRecDepth 100000 in
theorem appendSeq_calls {g n : Nat} {lb : Array Value} {base : Nat} {w0 w : World} {N : Nat} {v : Value} {init xs : List EvV} {Kp : World → World → Prop} (hn : 3 ≤ n) (eg : ∀ args w, (callFunc g args).run Try.prog w = .ok (.enter g args) w)
    (hseq : SeqStopsK Fence.wide (n - 1) Try.prog g lb (fun e : EvV => #[.agg e.cells]) Kp (fun ys => ys = xs) (fun _ => True) N w)
    (hKt : ∀ {A B C : World}, Kp A B → Kp B C → Kp A C) (hKp : ∀ W W', Below base W W' → (∀ (k : Nat) (cs : Array Value) (ty : TypeId), W.heap[k]? = some (Obj.cells cs ty (0, 0)) → ty ≠ 43 → ty ≠ 25 → W'.heap[k]? = W.heap[k]?) → Kp W W')
    (hv : kEv.R 43 w base (fun _ => True) v init) (hB : Below base w0 w) (hb : base ≤ w.heap.size) (hN : (init.length + N) * 272 ≤ 140737488355328) :
    Calls Try.prog 66 #[v, .func (.func g) #[] lb] w fun e w' => ∃ v', e = .returned v' ∧ kEv.R 43 w' base (fun _ => True) v' (init ++ xs) ∧ Below base w0 w' := by
  obtain ⟨A, c, rfl⟩ := Kd.R_slice hv
  obtain ⟨m, hm⟩ : ∃ m, init.length = m := ⟨_, rfl⟩
  rw [hm] at hv hN ⊢
  refine (callsIn_wide (n := n)).1 ?_
  refine callsIn_of_wp_marks Try.func66 rfl trivial ?_ rfl
  simp only [Try.ntmps66, List.size_toArray, List.length_cons, List.length_nil, Nat.reduceAdd, Nat.reduceSub, Array.replicate_succ, Array.replicate_zero, List.push_toArray, List.append_toArray, List.nil_append, List.cons_append]
  gi_wp2
  obtain ⟨v0, hv0⟩ : ∃ v : Value, v = .slice A m c := ⟨_, rfl⟩
  obtain ⟨W, hW⟩ : ∃ W, W = w.alloc (.cells #[.slice A m c] 25 (0, 0)) := ⟨_, rfl⟩
  have hbox : Boxed W w.heap.size 25 (.slice A m c) := by rw [hW]; exact Boxed.new _ _ _
  have hWs : W.heap.size = w.heap.size + 1 := by rw [hW]; simp
  have hWB : Below w.heap.size w W := by rw [hW]; exact below_alloc (Below.refl _ _) _
  rw [← hW]
  clear hW
  refine wpIn_rangeFunc_ownH (w0 := w) rfl (by omega) (gf := g) (lb := lb) rfl trivial eg hseq hKt ?hKb hWB (fun _ => rfl)
    (fun pre X => ∃ v' : Value, Boxed X w.heap.size 25 v' ∧ kEv.R 43 X base (fun _ => True) v' (init ++ pre) ∧ (v'.ownBlock = (Value.slice A m c).ownBlock ∨ ∃ b, v'.ownBlock = some b ∧ w.heap.size ≤ b) ∧ Below base w0 X)
    (fun _ _ _ => False) ?hI ?hIx ?h0
    (fun x a' X => ∃ Bx : Nat, w.heap.size < Bx ∧ X.heap[Bx]? = some (.cells x.cells 43 (0, 0)) ∧ a' = { tmps := #[.slice A m c, .func (.func g) #[] lb, .pointer (some ⟨w.heap.size, 0, none⟩), undef, .slice none 0 0, .pointer (some ⟨Bx, 0, none⟩), .func (.func g) #[] lb, .agg x.cells, undef, undef, undef, undef, undef], defers := [] })
    ?hAx ?assign ?body ?done ?stop
  case hKb =>
    intro X l o o' hl ho hc hw
    refine hKp _ _ ?_ (fun k cs ty hk _ _ => World.putObj_heap_other (fun e => by subst e; rw [ho] at hk; cases hk; cases hc))
    have hg := grownBy_putObj' X l o'
    exact ⟨hg.os, hg.tape, hg.output, hg.size, fun k hk => World.putObj_heap_other (by omega)⟩
  case hI =>
    rintro s X Y row ⟨v', h1, h2, h3, h4⟩ hg hr
    have hr' : ∀ r, row = some r → ∃ o : Obj, X.heap[r]? = some o ∧ o.isCells = false := fun r e => (hr r e).2
    refine ⟨v', h1.kept hg (fun e => ?_), R_own h2 hg hr', h3, h4.grown hg (Nat.le_trans (Nat.le_trans hb (Nat.le_of_lt h1.lt)) (Nat.le_refl _)) (fun k e => Nat.le_trans hb (Nat.le_trans (by rw [hWs]; omega) (hr k e).1))⟩
    obtain ⟨o, ho, hc⟩ := hr' _ e.symm
    unfold Boxed at h1
    rw [h1] at ho
    cases ho
    cases hc
  case hIx => exact fun _ _ _ _ _ h => h.elim
  case h0 => exact ⟨_, hbox, by rw [List.append_nil]; exact Kd.R_below hv hWB, .inl rfl, Below.trans hB (hWB.mono hb)⟩
  case hAx =>
    rintro x a' _ X Y row ⟨Bx, h1, h2, h3⟩ hg hr
    refine ⟨Bx, h1, (hg.block Bx (blk_lt h2) (fun e => ?_)).trans h2, h3⟩
    obtain ⟨o, ho, hc⟩ := (hr _ e.symm).2
    rw [h2] at ho
    cases ho
    cases hc
  case assign =>
    rintro l pre x X K ⟨v', h1, h2, h3, h4⟩ hK
    have hbX : base ≤ X.heap.size := Nat.le_trans hb (Nat.le_of_lt h1.lt)
    simp only [Array.zip_eq_zipWith, List.zipWith_toArray, List.zipWith_cons_cons, List.zipWith_nil_left, List.zipWith_nil_right, List.foldl_toArray', List.foldl_toArray, List.foldl_cons, List.foldl_nil, List.setIfInBounds_toArray, List.set_cons_succ, List.set_cons_zero]
    refine wpIn_region_round (by rfl) (by rintro ⟨_, _, h⟩; exact h) ?_
    have HK := Lib.hid hK
    have H1 := Lib.hid h1
    have H2 := Lib.hid h2
    have H4 := Lib.hid h4
    clear hK h1 h2 h4
    go_wp2_with ((with_reducible refine gate_storeT 43 rfl ?_); refine bx_row rfl 43 (.tmp 5) (.tmp 7) rfl X.heap.size rfl x.cells rfl 43 zEv.cells (heap_alloc_new _ _) (by kernel_rfl) (by rfl) (by simp [EvV.cells, Value.oneCell']) (below_alloc (Below.refl X.heap.size X) _) (Nat.le_refl _) ?_; intro X2 hx hsz hoth hbb)
    have hbb' : Below base X X2 := ⟨hbb.os, hbb.tape, hbb.output, hbb.size, fun k hk => hbb.block k (by omega)⟩
    exact HK.out _ _ ((keepsOthers_below hbb).from _) (hKp _ _ hbb' (fun k cs ty hk _ _ => hbb.block k (blk_lt hk)))
      ⟨v', (hbb.block _ H1.out.lt).trans H1.out, Kd.R_below H2.out hbb, h3, H4.out.trans hbb'⟩ ⟨_, H1.out.lt, hx, rfl⟩
  case body =>
    rintro l pre x a' X hl hrec ⟨v', h1, h2, h3, h4⟩ ⟨Bx, hBx, hX, rfl⟩ hlen
    have hbX : base ≤ X.heap.size := Nat.le_trans hb (Nat.le_of_lt h1.lt)
    refine wpIn_block (wpIn_region_round (by rfl) (by rintro ⟨_, _, h⟩; exact h) ?_)
    have hc := h1.cell
    have HX := Lib.hid hX
    have H1 := Lib.hid h1
    have H2 := Lib.hid h2
    have H3 := Lib.hid h3
    have H4 := Lib.hid h4
    obtain ⟨Y, hY⟩ : ∃ Y, init ++ pre = Y := ⟨_, rfl⟩
    have hYl : Y.length = m + pre.length := by rw [← hY, List.length_append, hm]
    rw [hY] at H2
    have HY := Lib.hid hY
    obtain ⟨Z, hZ⟩ : ∃ Z, Y ++ [x] = Z := ⟨_, rfl⟩
    have HZ := Lib.hid hZ
    have HZ2 := Lib.hid (show init ++ (pre ++ [x]) = Z by rw [← List.append_assoc, hY, hZ])
    clear hZ
    have HL := Lib.hid (show (Y.length + 1) * 272 ≤ 140737488355328 by rw [hYl]; have : (m + pre.length + 1) * 272 ≤ (m + N) * 272 := Nat.mul_le_mul_right _ (by omega); omega)
    clear hX h1 h2 h3 h4 hrec hY hYl
    obtain ⟨A', c', hv'⟩ := Kd.R_slice H2.out
    subst hv'
    go_wp2_with (first
      | ((with_reducible refine gate_storeT 25 rfl ?_); refine bx_store1 rfl 25 (.tmp 2) (.tmp 11) rfl w.heap.size 0 rfl (.slice A1 Z.length c1) rfl 25 #[.slice A' Y.length c'] HBOX.out (by kernel_rfl) (by show 0 < 1; omega) rfl #[.slice A1 Z.length c1] rfl HB1.out hb ?_; intro X2 hbx hsz hoth hB2)
      | ((with_reducible refine gate_builtin (b := .append) (xs := #[.tmp 8, .tmp 10]) rfl ?_); at_builtin; refine Kd.R_append kEv (w0 := w0) base rfl (.tmp 8) (.tmp 10) 25 43 (.agg zEv.cells) 272 rfl Try.underlying25 infoEv rfl (by decide) (by decide) _ Y x x.cells.toList (fun _ => True) (fun _ => False) rfl rfl rfl (fun _ hk => hk.elim) (fun _ _ => trivial) H2.out H4.out hbX HL.out ?_; intro v1 w1 ho hb1 hg1 hat1; rw [HZ.out] at ho; have HO := Lib.hid ho; have HB1 := Lib.hid hb1; have HG1 := Lib.hid hg1; have HAT := Lib.hid hat1; clear ho hb1 hg1 hat1; obtain ⟨A1, c1, hv1⟩ := Kd.R_slice HO.out; subst hv1; have HBOX := Lib.hid (show w1.heap[w.heap.size]? = some (.cells #[.slice A' Y.length c'] 25 (0, 0)) from (HG1.out.block _ H1.out.lt (fun e => by have h := Kd.R_typed H2.out _ e.symm; obtain ⟨cc, h⟩ := h; have h' := H1.out; unfold Boxed at h'; rw [h'] at h; cases h)).trans H1.out))
      | (refine Go.Great.wpList_buildSliceTo rfl 25 43 1 _ rfl X.heap.size rfl (some 10) rfl Try.underlying25 x.cells (by kernel_rfl) ?_)
      | ((with_reducible refine gate_load 43 rfl ?_); refine wpList_load_row rfl 43 _ rfl _ rfl 43 _ _ _ HX.out Try.underlying43 rfl (by kernel_rfl) ?_))
    have HX2 := Lib.hid hbx
    have hlt := H1.out.lt
    have key : ∀ k, k < X.heap.size → some k ≠ (Value.slice A' Y.length c').ownBlock → k ≠ w.heap.size → X2.heap[k]? = X.heap[k]? := fun k hk h1 h2 => (hoth k h2).trans (HG1.out.block k hk h1)
    have hown : ∀ k, (Value.slice A' Y.length c').ownBlock = some k → base ≤ k := Kd.R_base H2.out
    have hbX2 : Below base X X2 := ⟨hB2.os.trans H4.out.os.symm, hB2.tape.trans H4.out.tape.symm, hB2.output.trans H4.out.output.symm, by rw [hsz]; exact HG1.out.size, fun k hk => (hB2.block k hk).trans (H4.out.block k hk).symm⟩
    refine ⟨⟨by rw [hsz]; exact HG1.out.size, fun k o hkB hk ho => ?_⟩, hKp _ _ hbX2 (fun k cs ty hk h1 h2 => key k (blk_lt hk) (fun e => ?_) (fun e => ?_)), _, hbx, ?_, ?_, hB2⟩
    · refine (key k (blk_lt hk) (fun e => ?_) (by omega)).trans hk
      obtain ⟨cc, h⟩ := Kd.R_typed H2.out k e.symm
      rw [h] at hk
      cases hk
      cases ho
    · obtain ⟨cc, h⟩ := Kd.R_typed H2.out k e.symm
      rw [h] at hk
      cases hk
      exact h1 rfl
    · subst e
      have h := H1.out
      unfold Boxed at h
      rw [h] at hk
      cases hk
      exact h2 rfl
    · rw [HZ2.out]
      have h := Kd.R_types HO.out HBOX.out typesEv
      exact Kd.R_mono (Kd.R_move h (fun k hk => hoth k hk.2)) (fun _ _ => trivial)
    · rcases HAT.out with h | ⟨b, h, hbl⟩
      · rw [h]
        exact H3.out
      · exact .inr ⟨b, h, by omega⟩
  case done =>
    rintro D ys X hD rfl ⟨v', h1, h2, h3, h4⟩ hK
    have hc := h1.cell
    gi_wp2
    refine ⟨by simp, .inl ⟨_, _, rfl, run_takeDeferred hK, ?_⟩⟩
    have hg := grownBy_putObj' X D (.deferred none)
    have hbb : Below base X (X.putObj D (.deferred none)) := ⟨hg.os, hg.tape, hg.output, hg.size, fun k hk => World.putObj_heap_other (by omega)⟩
    exact ⟨_, results_tmp rfl _ _ _, _, rfl, R_own h2 hg (fun r e => by cases e; exact ⟨_, hK, rfl⟩), h4.trans hbb⟩
  case stop =>
    rintro D c pre X hD _ h _
    exact h.elim
end Go.Proofs.Ytaoflcmjmhfblaa.C
