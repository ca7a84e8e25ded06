/- ReconStill: the walk. -/
import Derived.Test.YtaoflcmjmhfblaaRc6
namespace Go.Proofs.Ytaoflcmjmhfblaa.C
open Go.RowKit Go.Proofs.YtaoflcmjmhfblaaW.PrintWords Go.Proofs.YtaoflcmjmhfblaaW.PrintLast Go.Proofs.YtaoflcmjmhfblaaW.PrintMore Go.Proofs.Ytaoflcmjmhfblaa.H
set_option linter.unusedVariables false
set_option linter.unusedSimpArgs false
theorem infoTold : (Try.prog.info? 45).map (fun i => (i.zero, i.size, i.bytes)) = some (some (.agg noTol.cells), 3, 24) := by kernel_rfl
def stillT (L : List InV) : List TolV := L.map (stillOf (fun i : InV => i.id) (fun i => i.state))
theorem still_get {L : List InV} {i : Nat} (h : i < L.length) : (stillT L).getD i noTol = stillOf (fun i : InV => i.id) (fun i => i.state) (L.getD i noInst) := by
  unfold stillT
  simp [List.getD_eq_getElem?_getD, h]
theorem still_take {L : List InV} {i : Nat} {x : InV} (hi : i < L.length) (hx : L.getD i noInst = x) : stillT (L.take (i + 1)) = stillT (L.take i) ++ [stillOf (fun i : InV => i.id) (fun i => i.state) x] := by
  have e : L.take (i + 1) = L.take i ++ [x] := by
    rw [List.take_add_one, List.getElem?_eq_getElem hi]
    rw [List.getD_eq_getElem?_getD, List.getElem?_eq_getElem hi] at hx
    simp only [Option.getD_some] at hx
    rw [hx]
    rfl
  unfold stillT
  rw [e, List.map_append]
  rfl
theorem inst_top {i : InV} (h : instMay i = true) : i.id ≤ 4611686018427387904 := by
  simp only [instMay, Bool.and_eq_true, Bool.not_eq_true', Bool.or_eq_false_iff, decide_eq_false_iff_not] at h
  omega
theorem still_may {L : List InV} (h : MayL L) : MayT (stillT L) := by
  intro i hi
  have hi' : i < L.length := by unfold stillT at hi; simpa using hi
  rw [still_get hi']
  have h1 := h.2 i hi'
  have h2 := instMay_id h1.1
  have h3 := inst_top h1.1
  refine ⟨⟨h3, by show (1 : Int) ≤ 1; omega, by show (1 : Int) ≤ _; omega, ?_, ?_⟩, h2.1, fun h0 => ?_⟩
  · unfold stillOf; simp only; split <;> (try split) <;> omega
  · unfold stillOf; simp only; split <;> (try split) <;> omega
  · rw [still_get (by omega)]
    exact h1.2 h0
theorem still_wf {L : List InV} (h : MayL L) : wfT (stillT L) := by
  intro i hi
  have hi' : i < L.length := by unfold stillT at hi; simpa using hi
  rw [still_get hi']
  have h2 := instMay_id (h.2 i hi').1
  refine ⟨by show 0 ≤ (L.getD i noInst).id; omega, by show (0 : Int) ≤ 1; omega, ?_⟩
  unfold stillOf; simp only; split <;> (try split) <;> omega
theorem pair_ids {L : List InV} (h : MayL L) : L.Pairwise (fun a b => a.id ≠ b.id) := by
  have hinc := inc_of (f := fun i => (L.getD i noInst).id) (n := L.length) (fun i hi h0 => (h.2 i hi).2 h0)
  rw [List.pairwise_iff_getElem]
  intro i j hi hj hij
  have := hinc i j hij hj
  simp only [List.getD_eq_getElem?_getD, List.getElem?_eq_getElem hi, List.getElem?_eq_getElem hj, Option.getD_some] at this
  omega
theorem still_all {L : List InV} (h : MayL L) : allT (stillT L) L = [] := by
  unfold allT comeT goneT stillT
  rw [still_come (pair_ids h), still_gone]
  rfl
theorem kTol_M (w : World) (base : Nat) (ok : Nat → Prop) (t : TolV) : kTol.M w base ok t t.cells.toList := ⟨_, _, rfl, rfl, _, _, rfl, rfl, rfl⟩
set_option maxHeartbeats 8000000 in
set_option maxRecDepth 100000 in
theorem reconStill_calls {AL : Option Addr} (cL : Nat) {nL : Nat} {L : List InV} (w : World) (hL : kInst.C w AL nL L) :
    Calls Try.prog 4 #[.slice AL nL cL] w fun e w' => e = .returned (.bool true) ∧ Below w.heap.size w w' := by
  have hm := Kd.C_max hL
  have KM0 := rsumsMay_calls AL cL nL L w hL
  have KM := Lib.hid KM0
  have HL := Lib.hid hL
  have hN := hL.1
  have HN := Lib.hid hN
  clear hL KM0 hN
  have HB0 := Lib.hid (Below.refl w.heap.size w)
  go_enter Try.func4, Try.ntmps4
  by_cases hbig : 300 < nL
  · have l1 : ((nL : Int) > 300) := by omega
    go_wp2_with (go_at_call 15; refine (lives_calls _).mono ?_; rintro e w9 ⟨rfl, hb⟩; have HB9 := Lib.hid (below_step HB0.out hb); clear hb)
    go_ret
    exact ⟨rfl, HB9.out⟩
  have l1 : ¬ ((nL : Int) > 300) := by omega
  by_cases hM : MayL L
  case neg =>
    go_wp2_with (first
      | (go_at_call 15; refine (lives_calls _).mono ?_; rintro e w9 ⟨rfl, hb⟩; have HB9 := Lib.hid (below_step HB1.out hb); clear hb)
      | (go_at_call 18; refine KM.out.mono ?_; rintro e w1 ⟨⟨b1, rfl, hb1⟩, hb⟩; obtain rfl : b1 = false := (by cases b1 with | false => rfl | true => exact absurd (hb1.1 rfl) hM); have HB1 := Lib.hid hb; clear hb hb1))
    go_ret
    exact ⟨rfl, HB9.out⟩
  have HMY := Lib.hid hM
  go_wp2_with (go_at_call 18; refine KM.out.mono ?_; rintro e w1 ⟨⟨b1, rfl, hb1⟩, hb⟩; obtain rfl : b1 = true := hb1.2 hM; have HB1 := Lib.hid hb; clear hb hb1)
  go_loopw [3, 4] (fun v3 v4 wr => ∃ i : Nat, i ≤ nL ∧ v4 = .int .i64 i ∧ Hid (kTol.R 45 wr w.heap.size (fun _ => True) v3 (stillT (L.take i))) ∧ Hid (Below w.heap.size w wr)) (fun _ v4 _ => nL - (intOf v4).toNat)
  case atStart => exact ⟨0, Nat.zero_le _, rfl, Lib.hid (Kd.R_nil _ _ _ _ _), HB1⟩
  case round =>
    rename_i u3 u4
    clear HB1 HB0 KM
    obtain ⟨i, hi, rfl, HR, HB⟩ := hrel
    by_cases hlt : i < nL
    · obtain ⟨al, ea, hc⟩ := inst_at HL.out i hlt
      subst ea
      obtain ⟨x, hx⟩ : ∃ x, L.getD i noInst = x := ⟨_, rfl⟩
      rw [hx] at hc
      have HSTEP0 := Lib.hid (still_take (by rw [HN.out]; exact hlt) hx)
      obtain ⟨xid, hxid⟩ : ∃ y, x.id = y := ⟨_, rfl⟩
      obtain ⟨s, hs⟩ : ∃ y, x.state = y := ⟨_, rfl⟩
      have c0 := hc 0 _ rfl
      have c5 := hc 5 _ rfl
      rw [add_zero', hxid] at c0
      rw [add_fC _ _ _ (by omega), hs] at c5
      have C0 := Lib.hid c0
      have C5 := Lib.hid c5
      have HSTEP1 := HSTEP0.out
      unfold stillOf at HSTEP1
      simp only [hxid, hs] at HSTEP1
      clear hc hx c0 c5 HSTEP0 hxid hs
      have l2 : (i : Int) < (nL : Int) := by omega
      have l0 : (0 : Int) ≤ (i : Int) := by omega
      have c0 := (HB.out.cell (World.block_lt_of_cell? _ _ C0.out)).trans C0.out
      obtain ⟨Y, hY⟩ : ∃ Y, stillT (L.take i) = Y := ⟨_, rfl⟩
      have hYl : Y.length = i := by rw [← hY]; unfold stillT; rw [List.length_map, List.length_take, HN.out]; omega
      rw [hY] at HSTEP1 HR
      have HLN := Lib.hid (show (Y.length + 1) * 24 ≤ 140737488355328 by omega)
      clear hY hYl
      go_upto_region 8 with ((with_reducible refine gate_storeT 45 rfl ?_); refine bx_row rfl 45 (.tmp 5) (.tmp 28) rfl wr.heap.size rfl #[.int .u64 xid, .int .u64 1, .int .u8 2] rfl 45 noTol.cells (heap_alloc_new _ _) (by kernel_rfl) (by rfl) (by simp [Value.oneCell']) (below_alloc (Below.refl wr.heap.size wr) _) (Nat.le_refl _) ?_; intro w2 hx2 hsz hoth hbb; have HX2 := Lib.hid hx2; have HB2 := Lib.hid hbb; clear hx2 hsz hoth hbb)
      have c5 := (HB2.out.cell (World.block_lt_of_cell? _ _ ((HB.out.cell (World.block_lt_of_cell? _ _ C5.out)).trans C5.out))).trans ((HB.out.cell (World.block_lt_of_cell? _ _ C5.out)).trans C5.out)
      clear c0
      by_cases e1 : s = 1
      · subst e1
        have HSTEP := Lib.hid (show stillT (L.take (i + 1)) = Y ++ [⟨xid, 1, 1⟩] by rw [HSTEP1]; simp [*])
        clear HSTEP1
        go_upto_region 10 with ((with_reducible refine gate_storeT 5 rfl ?_); refine bx_store1 rfl 5 (.tmp 43) (.const (.int .u8 1)) rfl wr.heap.size 2 rfl (.int .u8 1) rfl 45 #[.int .u64 xid, .int .u64 1, .int .u8 2] HX2.out (by kernel_rfl) (by show 2 < 3; omega) rfl #[.int .u64 xid, .int .u64 1, .int .u8 1] rfl HB2.out (Nat.le_refl _) ?_; intro w3 hx3 hsz hoth hbb; have HX3 := Lib.hid hx3; have HB3 := Lib.hid hbb; clear hx3 hsz hoth hbb)
        clear c5
        have c5 : w3.cell? ⟨(al.add (i * 12)).block, (al.add (i * 12)).off + 5, none⟩ = some (.int .u8 1) := (HB3.out.cell (World.block_lt_of_cell? _ _ ((HB.out.cell (World.block_lt_of_cell? _ _ C5.out)).trans C5.out))).trans ((HB.out.cell (World.block_lt_of_cell? _ _ C5.out)).trans C5.out)
        go_upto_region 14 with fail
        have HR4 := Lib.hid (Kd.R_below HR.out HB3.out)
        have HB4 := Lib.hid (below_step HB.out HB3.out)
        clear c5
        go_wp2_with (first | ((with_reducible refine gate_builtin (b := .append) (xs := #[.tmp 58, .tmp 60]) rfl ?_); at_builtin; refine Kd.R_append kTol (w0 := w) w.heap.size rfl (.tmp 58) (.tmp 60) 22 45 (.agg noTol.cells) 24 rfl Try.underlying22 infoTold rfl (by decide) (by decide) u3 Y ⟨xid, 1, 1⟩ (TolV.cells ⟨xid, 1, 1⟩).toList (fun _ => True) (fun _ => False) rfl rfl (kTol_M _ _ _ _) (fun _ hk => hk.elim) (fun _ _ => trivial) HR4.out HB4.out HB4.out.size HLN.out ?_; intro v1 w6 ho hb6 hg6 hat6; have HO := Lib.hid ho; have HB6 := Lib.hid hb6; clear ho hb6 hg6 hat6) | ((with_reducible refine gate_load 45 rfl ?_); refine wpList_load_row rfl 45 _ rfl _ rfl 45 _ _ _ HX3.out Try.underlying45 rfl (by kernel_rfl) ?_))
        exact ⟨⟨i + 1, by omega, by go_num, Lib.hid (by rw [HSTEP.out]; exact HO.out), HB6⟩, by simp only [intOf]; omega⟩
      have n1 : (s == 1) = false := by simpa using e1
      by_cases e9 : s = 9
      · subst e9
        have HSTEP := Lib.hid (show stillT (L.take (i + 1)) = Y ++ [⟨xid, 1, 1⟩] by rw [HSTEP1]; simp [*])
        clear HSTEP1
        go_upto_region 10 with ((with_reducible refine gate_storeT 5 rfl ?_); refine bx_store1 rfl 5 (.tmp 43) (.const (.int .u8 1)) rfl wr.heap.size 2 rfl (.int .u8 1) rfl 45 #[.int .u64 xid, .int .u64 1, .int .u8 2] HX2.out (by kernel_rfl) (by show 2 < 3; omega) rfl #[.int .u64 xid, .int .u64 1, .int .u8 1] rfl HB2.out (Nat.le_refl _) ?_; intro w3 hx3 hsz hoth hbb; have HX3 := Lib.hid hx3; have HB3 := Lib.hid hbb; clear hx3 hsz hoth hbb)
        clear c5
        have c5 : w3.cell? ⟨(al.add (i * 12)).block, (al.add (i * 12)).off + 5, none⟩ = some (.int .u8 9) := (HB3.out.cell (World.block_lt_of_cell? _ _ ((HB.out.cell (World.block_lt_of_cell? _ _ C5.out)).trans C5.out))).trans ((HB.out.cell (World.block_lt_of_cell? _ _ C5.out)).trans C5.out)
        go_upto_region 14 with fail
        have HR4 := Lib.hid (Kd.R_below HR.out HB3.out)
        have HB4 := Lib.hid (below_step HB.out HB3.out)
        clear c5
        go_wp2_with (first | ((with_reducible refine gate_builtin (b := .append) (xs := #[.tmp 58, .tmp 60]) rfl ?_); at_builtin; refine Kd.R_append kTol (w0 := w) w.heap.size rfl (.tmp 58) (.tmp 60) 22 45 (.agg noTol.cells) 24 rfl Try.underlying22 infoTold rfl (by decide) (by decide) u3 Y ⟨xid, 1, 1⟩ (TolV.cells ⟨xid, 1, 1⟩).toList (fun _ => True) (fun _ => False) rfl rfl (kTol_M _ _ _ _) (fun _ hk => hk.elim) (fun _ _ => trivial) HR4.out HB4.out HB4.out.size HLN.out ?_; intro v1 w6 ho hb6 hg6 hat6; have HO := Lib.hid ho; have HB6 := Lib.hid hb6; clear ho hb6 hg6 hat6) | ((with_reducible refine gate_load 45 rfl ?_); refine wpList_load_row rfl 45 _ rfl _ rfl 45 _ _ _ HX3.out Try.underlying45 rfl (by kernel_rfl) ?_))
        exact ⟨⟨i + 1, by omega, by go_num, Lib.hid (by rw [HSTEP.out]; exact HO.out), HB6⟩, by simp only [intOf]; omega⟩
      have n9 : (s == 9) = false := by simpa using e9
      by_cases e8 : s = 8
      · subst e8
        have HSTEP := Lib.hid (show stillT (L.take (i + 1)) = Y ++ [⟨xid, 1, 3⟩] by rw [HSTEP1]; simp [*])
        clear HSTEP1
        go_upto_region 12 with ((with_reducible refine gate_storeT 5 rfl ?_); refine bx_store1 rfl 5 (.tmp 50) (.const (.int .u8 3)) rfl wr.heap.size 2 rfl (.int .u8 3) rfl 45 #[.int .u64 xid, .int .u64 1, .int .u8 2] HX2.out (by kernel_rfl) (by show 2 < 3; omega) rfl #[.int .u64 xid, .int .u64 1, .int .u8 3] rfl HB2.out (Nat.le_refl _) ?_; intro w3 hx3 hsz hoth hbb; have HX3 := Lib.hid hx3; have HB3 := Lib.hid hbb; clear hx3 hsz hoth hbb)
        clear c5
        have c5 : w3.cell? ⟨(al.add (i * 12)).block, (al.add (i * 12)).off + 5, none⟩ = some (.int .u8 8) := (HB3.out.cell (World.block_lt_of_cell? _ _ ((HB.out.cell (World.block_lt_of_cell? _ _ C5.out)).trans C5.out))).trans ((HB.out.cell (World.block_lt_of_cell? _ _ C5.out)).trans C5.out)
        go_upto_region 14 with fail
        have HR4 := Lib.hid (Kd.R_below HR.out HB3.out)
        have HB4 := Lib.hid (below_step HB.out HB3.out)
        clear c5
        go_wp2_with (first | ((with_reducible refine gate_builtin (b := .append) (xs := #[.tmp 58, .tmp 60]) rfl ?_); at_builtin; refine Kd.R_append kTol (w0 := w) w.heap.size rfl (.tmp 58) (.tmp 60) 22 45 (.agg noTol.cells) 24 rfl Try.underlying22 infoTold rfl (by decide) (by decide) u3 Y ⟨xid, 1, 3⟩ (TolV.cells ⟨xid, 1, 3⟩).toList (fun _ => True) (fun _ => False) rfl rfl (kTol_M _ _ _ _) (fun _ hk => hk.elim) (fun _ _ => trivial) HR4.out HB4.out HB4.out.size HLN.out ?_; intro v1 w6 ho hb6 hg6 hat6; have HO := Lib.hid ho; have HB6 := Lib.hid hb6; clear ho hb6 hg6 hat6) | ((with_reducible refine gate_load 45 rfl ?_); refine wpList_load_row rfl 45 _ rfl _ rfl 45 _ _ _ HX3.out Try.underlying45 rfl (by kernel_rfl) ?_))
        exact ⟨⟨i + 1, by omega, by go_num, Lib.hid (by rw [HSTEP.out]; exact HO.out), HB6⟩, by simp only [intOf]; omega⟩
      have n8 : (s == 8) = false := by simpa using e8
      by_cases e7 : s = 7
      · subst e7
        have HSTEP := Lib.hid (show stillT (L.take (i + 1)) = Y ++ [⟨xid, 1, 1⟩] by rw [HSTEP1]; simp [*])
        clear HSTEP1
        go_upto_region 14 with ((with_reducible refine gate_storeT 5 rfl ?_); refine bx_store1 rfl 5 (.tmp 57) (.const (.int .u8 1)) rfl wr.heap.size 2 rfl (.int .u8 1) rfl 45 #[.int .u64 xid, .int .u64 1, .int .u8 2] HX2.out (by kernel_rfl) (by show 2 < 3; omega) rfl #[.int .u64 xid, .int .u64 1, .int .u8 1] rfl HB2.out (Nat.le_refl _) ?_; intro w3 hx3 hsz hoth hbb; have HX3 := Lib.hid hx3; have HB3 := Lib.hid hbb; clear hx3 hsz hoth hbb)
        clear c5
        have c5 : w3.cell? ⟨(al.add (i * 12)).block, (al.add (i * 12)).off + 5, none⟩ = some (.int .u8 7) := (HB3.out.cell (World.block_lt_of_cell? _ _ ((HB.out.cell (World.block_lt_of_cell? _ _ C5.out)).trans C5.out))).trans ((HB.out.cell (World.block_lt_of_cell? _ _ C5.out)).trans C5.out)
        have HR4 := Lib.hid (Kd.R_below HR.out HB3.out)
        have HB4 := Lib.hid (below_step HB.out HB3.out)
        clear c5
        go_wp2_with (first | ((with_reducible refine gate_builtin (b := .append) (xs := #[.tmp 58, .tmp 60]) rfl ?_); at_builtin; refine Kd.R_append kTol (w0 := w) w.heap.size rfl (.tmp 58) (.tmp 60) 22 45 (.agg noTol.cells) 24 rfl Try.underlying22 infoTold rfl (by decide) (by decide) u3 Y ⟨xid, 1, 1⟩ (TolV.cells ⟨xid, 1, 1⟩).toList (fun _ => True) (fun _ => False) rfl rfl (kTol_M _ _ _ _) (fun _ hk => hk.elim) (fun _ _ => trivial) HR4.out HB4.out HB4.out.size HLN.out ?_; intro v1 w6 ho hb6 hg6 hat6; have HO := Lib.hid ho; have HB6 := Lib.hid hb6; clear ho hb6 hg6 hat6) | ((with_reducible refine gate_load 45 rfl ?_); refine wpList_load_row rfl 45 _ rfl _ rfl 45 _ _ _ HX3.out Try.underlying45 rfl (by kernel_rfl) ?_))
        exact ⟨⟨i + 1, by omega, by go_num, Lib.hid (by rw [HSTEP.out]; exact HO.out), HB6⟩, by simp only [intOf]; omega⟩
      have n7 : (s == 7) = false := by simpa using e7
      have HSTEP := Lib.hid (show stillT (L.take (i + 1)) = Y ++ [⟨xid, 1, 2⟩] by rw [HSTEP1]; simp [*])
      clear HSTEP1
      go_upto_region 14 with fail
      have HR4 := Lib.hid (Kd.R_below HR.out HB2.out)
      have HB4 := Lib.hid (below_step HB.out HB2.out)
      clear c5
      go_wp2_with (first | ((with_reducible refine gate_builtin (b := .append) (xs := #[.tmp 58, .tmp 60]) rfl ?_); at_builtin; refine Kd.R_append kTol (w0 := w) w.heap.size rfl (.tmp 58) (.tmp 60) 22 45 (.agg noTol.cells) 24 rfl Try.underlying22 infoTold rfl (by decide) (by decide) u3 Y ⟨xid, 1, 2⟩ (TolV.cells ⟨xid, 1, 2⟩).toList (fun _ => True) (fun _ => False) rfl rfl (kTol_M _ _ _ _) (fun _ hk => hk.elim) (fun _ _ => trivial) HR4.out HB4.out HB4.out.size HLN.out ?_; intro v1 w6 ho hb6 hg6 hat6; have HO := Lib.hid ho; have HB6 := Lib.hid hb6; clear ho hb6 hg6 hat6) | ((with_reducible refine gate_load 45 rfl ?_); refine wpList_load_row rfl 45 _ rfl _ rfl 45 _ _ _ HX2.out Try.underlying45 rfl (by kernel_rfl) ?_))
      exact ⟨⟨i + 1, by omega, by go_num, Lib.hid (by rw [HSTEP.out]; exact HO.out), HB6⟩, by simp only [intOf]; omega⟩
    · have l2 : ¬ (i : Int) < (nL : Int) := by omega
      have HIE := Lib.hid (show i = nL by omega)
      obtain ⟨A3, c3, hv, hc3, hC⟩ := Kd.R_reads HR.out
      subst hv
      have htk : L.take i = L := by rw [HIE.out, ← HN.out]; exact List.take_length
      rw [htk] at hC
      have hlen : (stillT (L.take i)).length = nL := by rw [htk]; unfold stillT; rw [List.length_map, HN.out]
      have hlen2 : (stillT L).length = nL := by unfold stillT; rw [List.length_map, HN.out]
      rw [hlen]
      rw [hlen2] at hC
      have KE := Lib.hid (events_calls c3 cL wr hC (Kd.C_below HL.out HB.out) (still_wf HMY.out) (by omega))
      clear htk hlen hlen2 hC hc3 HR
      go_wp2_with (first
        | (go_at_call 15; refine (lives_calls _).mono ?_; rintro e w9 ⟨rfl, hb⟩; have HB9 := Lib.hid (below_step HB5.out hb); clear hb)
        | (go_at_call 16; refine KE.out.mono ?_; rintro e w5 ⟨v5, code, rfl, hE, hb⟩; obtain ⟨rfl, hR⟩ := hE.1 ⟨still_may HMY.out, HMY.out⟩; rw [still_all HMY.out] at hR; obtain ⟨A5, c5, rfl, _, _⟩ := Kd.R_reads hR; have HB5 := Lib.hid (below_step HB.out hb); clear hb hE hR))
      go_ret
      exact ⟨rfl, HB9.out⟩
end Go.Proofs.Ytaoflcmjmhfblaa.C
