/- recon.gone's iterator. -/
import Derived.Test.YtaoflcmjmhfblaaRc2
import Derived.Test.YtaoflcmjmhfblaaGSeq3
namespace Go.Proofs.Ytaoflcmjmhfblaa.C
open Go.RowKit Go.Proofs.YtaoflcmjmhfblaaW.PrintWords Go.Proofs.YtaoflcmjmhfblaaW.PrintLast Go.Proofs.YtaoflcmjmhfblaaW.PrintMore Go.Proofs.Ytaoflcmjmhfblaa.H
set_option linter.unusedVariables false
set_option linter.unusedSimpArgs false
def goneT (T : List TolV) (L : List InV) : List EvV := goneL (fun i : InV => i.id) T L
theorem gone_step {T : List TolV} {L : List InV} {i : Nat} {x : InV} (hx : L.getD i noInst = x) (hi : i < L.length) : goneT T (L.take (i + 1)) = goneT T (L.take i) ++ goneOf (fun i : InV => i.id) T x := by
  have e : L.take (i + 1) = L.take i ++ [x] := by
    rw [List.take_add_one, List.getElem?_eq_getElem hi]
    rw [List.getD_eq_getElem?_getD, List.getElem?_eq_getElem hi] at hx
    simp only [Option.getD_some] at hx
    rw [hx]
    rfl
  unfold goneT goneL
  rw [e, List.flatMap_append]
  simp
theorem gone_len (T : List TolV) (L : List InV) (j : Nat) : (goneT T (L.take j)).length ≤ (goneT T L).length := by
  have e : goneT T L = goneT T (L.take j) ++ goneT T (L.drop j) := by
    unfold goneT goneL
    rw [← List.flatMap_append, List.take_append_drop]
  rw [e, List.length_append]
  omega
theorem told_known {T : List TolV} {x : Int} {k nT : Nat} (hn : T.length = nT) (hinc : ∀ i j, i < j → j < nT → (T.getD i noTol).id < (T.getD j noTol).id) (hlt : ∀ j, j < k → (T.getD j noTol).id < x) (hk : k < nT) (he : (T.getD k noTol).id = x) : toldIn T x = true := by
  subst hn
  rw [toldIn_at hlt (fun _ => Int.le_of_eq he.symm) hinc, decide_eq_true ⟨hk, he⟩]
theorem told_unknown {T : List TolV} {x : Int} {k nT : Nat} (hn : T.length = nT) (hinc : ∀ i j, i < j → j < nT → (T.getD i noTol).id < (T.getD j noTol).id) (hlt : ∀ j, j < k → (T.getD j noTol).id < x) (hge : k < nT → x < (T.getD k noTol).id) : toldIn T x = false := by
  subst hn
  rw [toldIn_at hlt (fun h => Int.le_of_lt (hge h)) hinc, decide_eq_false (fun h => by have := hge h.1; have := h.2; omega)]
set_option maxHeartbeats 8000000 in
set_option maxRecDepth 100000 in
theorem gone1_stops {g1 g2 n N nT nL cT cL : Nat} {AT AL : Option Addr} {T : List TolV} {L : List InV} {wb w0 : World} (hn : 1 ≤ n) (hT : kTol.C wb AT nT T) (hL : kInst.C wb AL nL L)
    (hM : MemC wb g1 g2 (.slice AL nL cL) (.slice AT nT cT) 23 22 w0) (hiT : ∀ i j, i < j → j < nT → (T.getD i noTol).id < (T.getD j noTol).id) (hiL : ∀ i j, i < j → j < nL → (L.getD i noInst).id < (L.getD j noInst).id)
    (hN : (goneT T L).length ≤ N) :
    SeqStopsK Fence.wide n Try.prog 143 #[.pointer (some ⟨g1, 0, none⟩), .pointer (some ⟨g2, 0, none⟩)] (fun e : EvV => #[.agg e.cells]) (KpG wb.heap.size) (fun ys => ys = goneT T L) (fun _ => True) N w0 := by
  intro l J Jx W hW hJ hJx hY h0
  have hMW := hM.later hW
  have mixed : Try.prog.follows .mixedOrders = true := by kernel_rfl
  clear hM hW
  have hm1 := Kd.C_max hT
  have hm2 := Kd.C_max hL
  have HT := Lib.hid hT
  have HL := Lib.hid hL
  have HIT := Lib.hid hiT
  have HIL := Lib.hid hiL
  have HJ := Lib.hid hJ
  have HJx := Lib.hid hJx
  have HY := Lib.hid hY
  have HN := Lib.hid hN
  have hc1 : W.cell? ⟨g1, 0, none⟩ = some (.slice AL nL cL) := (blk_cell hMW.b1 0).trans rfl
  have HM := Lib.hid hMW
  have H0 := Lib.hid h0
  clear hT hL hiT hiL hJ hJx hY hN hMW h0
  simp only [List.push_toArray, List.append_toArray, List.cons_append, List.nil_append]
  refine callsIn_of_wp Try.func143 rfl trivial ?_ rfl
  simp only [Try.ntmps143, List.size_toArray, List.length_cons, List.length_nil, Nat.reduceAdd, Nat.reduceSub, Array.replicate_succ, Array.replicate_zero, List.push_toArray, List.append_toArray, List.nil_append, List.cons_append]
  gi_wp2
  gi_loopw [4, 9] (fun v4 v9 wr => ∃ i k : Nat, i ≤ nL ∧ k ≤ nT ∧ v9 = .int .i64 i ∧ v4 = .int .i64 k ∧ Hid (∀ j, j < k → i < nL → (T.getD j noTol).id < (L.getD i noInst).id) ∧ Hid (J (goneT T (L.take i)) wr) ∧ Hid (MemC wb g1 g2 (.slice AL nL cL) (.slice AT nT cT) 23 22 wr)) (fun _ v9 _ => nL - (intOf v9).toNat)
  case atStart => exact ⟨0, 0, Nat.zero_le _, Nat.zero_le _, rfl, rfl, Lib.hid (fun j h => absurd h (Nat.not_lt_zero _)), H0, HM⟩
  case round =>
    obtain ⟨i, k, hi, hk, rfl, rfl, HK, HJr, HMr⟩ := hrel
    clear hc1
    by_cases hlt : i < nL
    · obtain ⟨al, eL, hcL⟩ := inst_at HL.out i hlt
      subst eL
      obtain ⟨t, ht⟩ : ∃ t, L.getD i noInst = t := ⟨_, rfl⟩
      rw [ht] at hcL
      have HTI := Lib.hid ht
      have HCT := Lib.hid (show ∀ j v, t.cells.toList[j]? = some v → wr.cell? ((al.add (i * 12)).add j) = some v from fun j v hj => (HMr.out.below.cell (World.block_lt_of_cell? _ _ (hcL j v hj))).trans (hcL j v hj))
      clear hcL ht
      obtain ⟨x, hx⟩ : ∃ x, t.id = x := ⟨_, rfl⟩
      have HXI := Lib.hid hx
      have l1 : (i : Int) < (nL : Int) := by omega
      have l0 : (0 : Int) ≤ (i : Int) := by omega
      gi_wp2_with (refine stop_list ?_)
      refine ⟨wpListInW_of _ _ _ ?_⟩
      go_wp2_with fail
      refine ⟨(fun h => by cases h), ?_⟩
      gi_wp2_with (refine stop_list ?_)
      refine ⟨wpListInW_of _ _ _ ?_⟩
      go_wp2_with (first
        | ((with_reducible refine gate_storeT 34 rfl ?_); refine bx_row rfl 34 (.tmp 6) (.tmp 12) rfl wr.heap.size rfl t.cells rfl 34 noInst.cells (heap_alloc_new _ _) (by kernel_rfl) (by rfl) (by simp [InV.cells, Value.oneCell']) (below_alloc (Below.refl wr.heap.size wr) _) (Nat.le_refl _) ?_; intro w1 hxx hsz hoth hbb; have HX := Lib.hid hxx; have HB1 := Lib.hid hbb; clear hxx hsz hoth hbb)
        | ((with_reducible refine gate_load 34 rfl ?_); refine wpList_load_any rfl 34 _ rfl _ rfl t.cells.toList _ HCT.out Try.underlying34 rfl (by kernel_rfl) ?_))
      refine ⟨(fun h => by cases h), ?_⟩
      clear HCT
      have HJ1 : Hid (J (goneT T (L.take i)) w1) := Lib.hid (abides_below HJ.out HJr.out HB1.out)
      have HM1 := Lib.hid (HMr.out.later HB1.out)
      clear hx
      have hx0 : w1.cell? ⟨wr.heap.size, 0, none⟩ = some (.int .u64 x) := by rw [← HXI.out]; exact (blk_cell HX.out 0).trans rfl
      have hc2 : w1.cell? ⟨g2, 0, none⟩ = some (.slice AT nT cT) := (blk_cell HM1.out.b2 0).trans rfl
      gi_wp2
      gi_loopw [4] (fun v4 wq => ∃ k q : Nat, k ≤ nT ∧ v4 = .int .i64 k ∧ wq = w1.drewN q ∧ Hid (∀ j, j < k → (T.getD j noTol).id < x)) (fun v4 _ => nT - (intOf v4).toNat)
      case atStart => exact ⟨k, 0, hk, rfl, rfl, Lib.hid (fun j hj => by have := HK.out j hj hlt; rw [HTI.out, HXI.out] at this; exact this)⟩
      case round =>
        obtain ⟨k2, q, hk2, rfl, rfl, HK2⟩ := hrel
        clear HK
        have HK3 := Lib.hid (show ∀ j, j < k2 → i + 1 < nL → (T.getD j noTol).id < (L.getD (i + 1) noInst).id from fun j hj hi1 => by have h1 := HK2.out j hj; have h2 := HIL.out i (i + 1) (by omega) hi1; rw [HTI.out, HXI.out] at h2; omega)
        by_cases hlk : k2 < nT
        · obtain ⟨at_, eT, hcT⟩ := tol_at HT.out k2 hlk
          subst eT
          obtain ⟨y, hy⟩ : ∃ y, (T.getD k2 noTol).id = y := ⟨_, rfl⟩
          have hid0 := (HM1.out.below.cell (World.block_lt_of_cell? _ _ (hcT 0 _ rfl))).trans (hcT 0 _ rfl)
          rw [add_zero'] at hid0
          have HYI := Lib.hid hy
          have hid : w1.cell? (at_.add (k2 * 3)) = some (.int .u64 y) := by rw [← hy]; exact hid0
          have HID := Lib.hid hid
          clear hy hid0 hcT
          have hl1 : (k2 : Int) < (nT : Int) := by omega
          have hl0 : (0 : Int) ≤ (k2 : Int) := by omega
          have hle : ((k2 : Int) == (nT : Int)) = false := by simp; omega
          by_cases hly : y < x
          · gi_wp2
            refine wpIn_wide.2 ?_
            go_quiet (fail)
            gi_wp2
            exact ⟨⟨k2 + 1, _, by omega, by go_num, by first | rfl | (rw [World.drewN_drewN]), Lib.hid (fun j hj => by
              by_cases e : j = k2
              · subst e; rw [HYI.out]; exact hly
              · exact HK2.out j (by omega))⟩, by simp only [intOf]; omega⟩
          · gi_wp2
            refine wpIn_wide.2 ?_
            go_quiet (fail)
            gi_wp2
            by_cases hye : y = x
            · have hyb : (y != x) = false := by simp [hye]
              have htold := told_known HT.out.1 HIT.out HK2.out hlk (by rw [HYI.out, hye])
              clear hye hid
              refine gen_wIn (fun V => Below w1.heap.size w1 V) (pw_below_drewN (pw_below_drewN (Below.refl _ _) _) _) fun w2 hb2 => ?_
              have HJ1 := Lib.hid (abides_below HJ.out HJ1.out hb2)
              have HX := Lib.hid (blk_call hb2 HX.out)
              have HM1 := Lib.hid (HM1.out.later hb2)
              clear hx0 hc2
              have hx0 : w2.cell? ⟨wr.heap.size, 0, none⟩ = some (.int .u64 x) := by rw [← HXI.out]; exact (blk_cell HX.out 0).trans rfl
              have hc2 : w2.cell? ⟨g2, 0, none⟩ = some (.slice (some at_) nT cT) := (blk_cell HM1.out.b2 0).trans rfl
              have hid := (hb2.cell (World.block_lt_of_cell? _ _ HID.out)).trans HID.out
              have HSTEP := Lib.hid (show goneT T (L.take (i + 1)) = goneT T (L.take i) ++ [] by rw [gone_step HTI.out (by rw [HL.out.1]; exact hlt)]; unfold goneOf; simp only [HXI.out, htold]; simp)
              have HLEN := Lib.hid (show (goneT T (L.take i)).length + ([] : List EvV).length ≤ N by have h1 := gone_len T L (i + 1); rw [HSTEP.out, List.length_append] at h1; have h2 := HN.out; omega)
              clear htold hb2
              refine wpIn_wide.2 ?_
              go_quiet (fail)
              have hb4 : ∀ m, Below w2.heap.size w2 (w2.drewN m) := fun m => pw_below_drewN (Below.refl _ _) _
              gi_wp2
              exact ⟨⟨i + 1, k2, by omega, hk2, by go_num, rfl, HK3, Lib.hid (by rw [HSTEP.out, List.append_nil]; exact abides_below HJ.out HJ1.out (hb4 _)), Lib.hid (HM1.out.later (hb4 _))⟩, by simp only [intOf]; omega⟩
            · have hyb : (y != x) = true := by simp [hye]
              have htold := told_unknown HT.out.1 HIT.out HK2.out (fun _ => by rw [HYI.out]; omega)
              clear hye hid
              refine gen_wIn (fun V => Below w1.heap.size w1 V) (pw_below_drewN (pw_below_drewN (Below.refl _ _) _) _) fun w2 hb2 => ?_
              have HJ1 := Lib.hid (abides_below HJ.out HJ1.out hb2)
              have HX := Lib.hid (blk_call hb2 HX.out)
              have HM1 := Lib.hid (HM1.out.later hb2)
              clear hx0 hc2
              have hx0 : w2.cell? ⟨wr.heap.size, 0, none⟩ = some (.int .u64 x) := by rw [← HXI.out]; exact (blk_cell HX.out 0).trans rfl
              have hc2 : w2.cell? ⟨g2, 0, none⟩ = some (.slice (some at_) nT cT) := (blk_cell HM1.out.b2 0).trans rfl
              have hid := (hb2.cell (World.block_lt_of_cell? _ _ HID.out)).trans HID.out
              clear hb2
              have HSTEP := Lib.hid (show goneT T (L.take (i + 1)) = goneT T (L.take i) ++ [⟨15, 0, x⟩] by rw [gone_step HTI.out (by rw [HL.out.1]; exact hlt)]; unfold goneOf; simp only [HXI.out, htold]; simp)
              have HLEN := Lib.hid (show (goneT T (L.take i)).length + ([⟨15, 0, x⟩] : List EvV).length ≤ N by have h1 := gone_len T L (i + 1); rw [HSTEP.out, List.length_append] at h1; have h2 := HN.out; omega)
              clear htold
              refine wpIn_region_quiet_tail (C := fun w' => ∃ m, w' = w2.drewN m) 19 mixed (by kernel_rfl) ⟨1, rfl⟩ ?_
              simp only [List.take_succ_cons, List.take_zero, List.drop_succ_cons, List.drop_zero]
              repeat (go_big_quiet_step (fail))
              refine wpQuiet_nil ?_
              rintro _ ⟨nq, rfl⟩
              have hb3 : Below w2.heap.size w2 (w2.drewN nq) := pw_below_drewN (Below.refl _ _) _
              have HJ1 := Lib.hid (abides_below HJ.out HJ1.out hb3)
              have HX := Lib.hid (blk_call hb3 HX.out)
              have HM1 := Lib.hid (HM1.out.later hb3)
              have hln : (goneT T (L.take i)).length < N := by have h1 := HLEN.out; simp only [List.length_cons, List.length_nil] at h1; omega
              obtain ⟨fn, tmps, assign, body, hy, hR⟩ := HY.out (goneT T (L.take i)) ⟨15, 0, x⟩ (w2.drewN nq) HJ1.out hln
              simp only [EvV.cells] at hy
              have HR := Lib.hid hR
              clear hR hln hb3 hx0 hc2
              gi_wp2
              refine HR.out.mono ?_
              rintro e w4 (⟨rfl, hJ3, hk3⟩ | ⟨rfl, hJx3⟩)
              rotate_left 1
              · gi_wp2
                refine bodyPost_ret (results_none rfl _ _ _) rfl ?_
                exact ⟨⟨_, rfl⟩, .inr ⟨_, trivial, hJx3⟩⟩
              have HJ1 := Lib.hid hJ3
              have HM1 := Lib.hid (HM1.out.keeps hk3 ⟨by decide, by decide⟩ ⟨by decide, by decide⟩)
              clear hJ3 hk3 hy HR HX
              gi_wp2
              exact ⟨⟨i + 1, k2, by omega, hk2, by go_num, rfl, HK3, Lib.hid (by rw [HSTEP.out]; exact HJ1.out), HM1⟩, by simp only [intOf]; omega⟩
        · have hl1 : ¬ (k2 : Int) < (nT : Int) := by omega
          have hle : ((k2 : Int) == (nT : Int)) = true := by simp; omega
          have htold := told_unknown HT.out.1 HIT.out HK2.out (fun h => absurd h hlk)
          gi_wp2
          refine wpIn_wide.2 ?_
          go_quiet (fail)
          gi_wp2
          refine gen_wIn (fun V => Below w1.heap.size w1 V) (pw_below_drewN (pw_below_drewN (Below.refl _ _) _) _) fun w2 hb2 => ?_
          have HJ1 := Lib.hid (abides_below HJ.out HJ1.out hb2)
          have HX := Lib.hid (blk_call hb2 HX.out)
          have HM1 := Lib.hid (HM1.out.later hb2)
          clear hx0 hc2
          have hx0 : w2.cell? ⟨wr.heap.size, 0, none⟩ = some (.int .u64 x) := by rw [← HXI.out]; exact (blk_cell HX.out 0).trans rfl
          have hc2 : w2.cell? ⟨g2, 0, none⟩ = some (.slice AT nT cT) := (blk_cell HM1.out.b2 0).trans rfl
          clear hb2
          have HSTEP := Lib.hid (show goneT T (L.take (i + 1)) = goneT T (L.take i) ++ [⟨15, 0, x⟩] by rw [gone_step HTI.out (by rw [HL.out.1]; exact hlt)]; unfold goneOf; simp only [HXI.out, htold]; simp)
          have HLEN := Lib.hid (show (goneT T (L.take i)).length + ([⟨15, 0, x⟩] : List EvV).length ≤ N by have h1 := gone_len T L (i + 1); rw [HSTEP.out, List.length_append] at h1; have h2 := HN.out; omega)
          clear htold
          refine wpIn_region_quiet_tail (C := fun w' => ∃ m, w' = w2.drewN m) 19 mixed (by kernel_rfl) ⟨1, rfl⟩ ?_
          simp only [List.take_succ_cons, List.take_zero, List.drop_succ_cons, List.drop_zero]
          repeat (go_big_quiet_step (fail))
          refine wpQuiet_nil ?_
          rintro _ ⟨nq, rfl⟩
          have hb3 : Below w2.heap.size w2 (w2.drewN nq) := pw_below_drewN (Below.refl _ _) _
          have HJ1 := Lib.hid (abides_below HJ.out HJ1.out hb3)
          have HX := Lib.hid (blk_call hb3 HX.out)
          have HM1 := Lib.hid (HM1.out.later hb3)
          have hln : (goneT T (L.take i)).length < N := by have h1 := HLEN.out; simp only [List.length_cons, List.length_nil] at h1; omega
          obtain ⟨fn, tmps, assign, body, hy, hR⟩ := HY.out (goneT T (L.take i)) ⟨15, 0, x⟩ (w2.drewN nq) HJ1.out hln
          simp only [EvV.cells] at hy
          have HR := Lib.hid hR
          clear hR hln hb3 hx0 hc2
          gi_wp2
          refine HR.out.mono ?_
          rintro e w4 (⟨rfl, hJ3, hk3⟩ | ⟨rfl, hJx3⟩)
          rotate_left 1
          · gi_wp2
            refine bodyPost_ret (results_none rfl _ _ _) rfl ?_
            exact ⟨⟨_, rfl⟩, .inr ⟨_, trivial, hJx3⟩⟩
          have HJ1 := Lib.hid hJ3
          have HM1 := Lib.hid (HM1.out.keeps hk3 ⟨by decide, by decide⟩ ⟨by decide, by decide⟩)
          clear hJ3 hk3 hy HR HX
          gi_wp2
          exact ⟨⟨i + 1, k2, by omega, hk2, by go_num, rfl, HK3, Lib.hid (by rw [HSTEP.out]; exact HJ1.out), HM1⟩, by simp only [intOf]; omega⟩
    · have hie : i = nL := by omega
      have HIE := Lib.hid hie
      clear hie
      have l1 : ¬ (i : Int) < (nL : Int) := by have := HIE.out; omega
      gi_wp2
      go_end0
      exact ⟨⟨_, rfl⟩, .inl (by have h := HJr.out; rw [HIE.out, ← HL.out.1, List.take_length] at h; exact h)⟩
end Go.Proofs.Ytaoflcmjmhfblaa.C
