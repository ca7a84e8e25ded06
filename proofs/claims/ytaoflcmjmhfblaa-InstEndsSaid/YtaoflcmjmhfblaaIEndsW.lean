/- The law InstEnds, walked. -/
import Derived.Test.YtaoflcmjmhfblaaIEndsP
namespace Go.Proofs.Ytaoflcmjmhfblaa.I
open Go.RowKit Go.Proofs.YtaoflcmjmhfblaaW.PrintWords Go.Proofs.YtaoflcmjmhfblaaW.PrintLast Go.Proofs.YtaoflcmjmhfblaaW.PrintMore Go.Proofs.Ytaoflcmjmhfblaa.H Go.Shelf
set_option linter.unusedVariables false
set_option linter.unusedSimpArgs false
set_option maxHeartbeats 16000000 in
set_option maxRecDepth 100000 in
theorem ends_walk (i : InV) (now dr ho beats : Int) (w : World) (hn0 : 0 ≤ now) (hd0 : 0 ≤ dr) (hd1 : dr ≤ 255) (hh0 : 0 ≤ ho) (hh1 : ho ≤ 255) (hb0 : 0 ≤ beats) (hb1 : beats ≤ 18446744073709551615) :
    Calls Try.prog 5 #[i.val, .int .u64 now, .int .u8 dr, .int .u8 ho, .int .u64 beats] w fun e w' => e = .returned (.bool true) ∧ Below w.heap.size w w' := by
  have KL := Lib.hid lives16_calls
  obtain ⟨m, hm⟩ : ∃ m, instMay i = m := ⟨_, rfl⟩
  obtain ⟨sv, hsv⟩ : ∃ sv, serves i = sv := ⟨_, rfl⟩
  have KM0 := instMay_calls i
  have KV0 := serves_calls i
  rw [hm] at KM0
  rw [hsv] at KV0
  simp only [InV.val] at KM0 KV0 ⊢
  have KM := Lib.hid KM0
  have KV := Lib.hid KV0
  clear KM0 KV0
  have HBel : Below w.heap.size w w := Below.refl _ _
  go_enter Try.func5, Try.ntmps5
  go_upto_region 1 with fail
  refine gen_w (fun W => W.heap[w.heap.size]? = some (.cells i.cells 34 (0, 0)) ∧ Below w.heap.size w W) ⟨heap_alloc_new _ _, below_alloc HBel _⟩ ?_
  rintro W ⟨hI, hB⟩
  have HI := Lib.hid hI
  have HB := Lib.hid hB
  clear hI hB HBel
  cases m
  · go_wp2_with (first | (go_at_call 20; (with_reducible refine (KM.out _).mono ?_); rintro e w1 ⟨rfl, hb⟩; have HI := Lib.hid (blk_call hb HI.out); have HB := Lib.hid (below_step HB.out hb); clear hb) | ((with_reducible refine gate_load 34 rfl ?_); refine wpList_load_row rfl 34 _ rfl _ rfl 34 _ _ _ (by exact HI.out) Try.underlying34 rfl (by kernel_rfl) ?_) | (go_at_call 22; (with_reducible refine (KL.out _).mono ?_); rintro e w1 ⟨rfl, hb⟩; have HB := Lib.hid (below_step HB.out hb); clear hb))
    all_goals (go_ret; exact ⟨rfl, HB.out⟩)
  cases sv
  · go_wp2_with (first | (go_at_call 20; (with_reducible refine (KM.out _).mono ?_); rintro e w1 ⟨rfl, hb⟩; have HI := Lib.hid (blk_call hb HI.out); have HB := Lib.hid (below_step HB.out hb); clear hb) | (go_at_call 21; (with_reducible refine (KV.out _).mono ?_); rintro e w1 ⟨rfl, hb⟩; have HI := Lib.hid (blk_call hb HI.out); have HB := Lib.hid (below_step HB.out hb); clear hb) | ((with_reducible refine gate_load 34 rfl ?_); refine wpList_load_row rfl 34 _ rfl _ rfl 34 _ _ _ (by exact HI.out) Try.underlying34 rfl (by kernel_rfl) ?_) | ((with_reducible refine gate_load 34 rfl ?_); refine load_row_g (by rfl) 34 _ rfl _ rfl 34 _ _ _ (by exact HI.out) Try.underlying34 rfl (by kernel_rfl) ?_) | (go_at_call 22; (with_reducible refine (KL.out _).mono ?_); rintro e w1 ⟨rfl, hb⟩; have HB := Lib.hid (below_step HB.out hb); clear hb))
    all_goals (go_ret; exact ⟨rfl, HB.out⟩)
  by_cases hnow : 1099511626776 < now
  · go_wp2_with (first | (go_at_call 20; (with_reducible refine (KM.out _).mono ?_); rintro e w1 ⟨rfl, hb⟩; have HI := Lib.hid (blk_call hb HI.out); have HB := Lib.hid (below_step HB.out hb); clear hb) | (go_at_call 21; (with_reducible refine (KV.out _).mono ?_); rintro e w1 ⟨rfl, hb⟩; have HI := Lib.hid (blk_call hb HI.out); have HB := Lib.hid (below_step HB.out hb); clear hb) | ((with_reducible refine gate_load 34 rfl ?_); refine wpList_load_row rfl 34 _ rfl _ rfl 34 _ _ _ (by exact HI.out) Try.underlying34 rfl (by kernel_rfl) ?_) | ((with_reducible refine gate_load 34 rfl ?_); refine load_row_g (by rfl) 34 _ rfl _ rfl 34 _ _ _ (by exact HI.out) Try.underlying34 rfl (by kernel_rfl) ?_) | (go_at_call 22; (with_reducible refine (KL.out _).mono ?_); rintro e w1 ⟨rfl, hb⟩; have HB := Lib.hid (below_step HB.out hb); clear hb))
    all_goals first | (exfalso; omega) | (go_ret; exact ⟨rfl, HB.out⟩)
  go_upto_region 4 with (first | (go_at_call 20; (with_reducible refine (KM.out _).mono ?_); rintro e w1 ⟨rfl, hb⟩; have HI := Lib.hid (blk_call hb HI.out); have HB := Lib.hid (below_step HB.out hb); clear hb) | (go_at_call 21; (with_reducible refine (KV.out _).mono ?_); rintro e w1 ⟨rfl, hb⟩; have HI := Lib.hid (blk_call hb HI.out); have HB := Lib.hid (below_step HB.out hb); clear hb) | ((with_reducible refine gate_load 34 rfl ?_); refine wpList_load_row rfl 34 _ rfl _ rfl 34 _ _ _ (by exact HI.out) Try.underlying34 rfl (by kernel_rfl) ?_) | ((with_reducible refine gate_load 34 rfl ?_); refine load_row_g (by rfl) 34 _ rfl _ rfl 34 _ _ _ (by exact HI.out) Try.underlying34 rfl (by kernel_rfl) ?_) | ((with_reducible refine gate_storeT 41 rfl ?_); refine wpList_store_row rfl 41 _ _ rfl _ _ rfl rfl 41 _ (heap_alloc_new _ _) (by kernel_rfl) rfl (by simp [Value.oneCell']) ?_; rw [setRow_alloc]))
  all_goals try (exfalso; omega)
  have hlt11 := blk_lt HI.out
  obtain ⟨D, hDe⟩ : ∃ D : Nat, dr % 60 = (D : Int) := ⟨(dr % 60).toNat, by omega⟩
  obtain ⟨H, hHe⟩ : ∃ H : Nat, ho % 60 = (H : Int) := ⟨(ho % 60).toNat, by omega⟩
  have hD : D < 60 := by omega
  have hH : H < 60 := by omega
  refine gen_w (fun W2 => W2.heap[w.heap.size]? = some (.cells i.cells 34 (0, 0)) ∧ W2.heap[w1.heap.size]? = some (.cells (CfV.cells (cfI D H)) 41 (0, 0)) ∧ Below w.heap.size w W2) ⟨alloc_old _ _ HI.out, by simp only [CfV.cells, cfI, ← hDe, ← hHe]; exact heap_alloc_new _ _, below_alloc HB.out _⟩ ?_
  clear HI HB KM KV
  generalize w1.heap.size = g11 at *
  clear w1 hDe hHe
  rintro W2 ⟨hI, hC, hB⟩
  have HNE := Lib.hid (show g11 ≠ w.heap.size by omega)
  have HI := Lib.hid hI
  have HC := Lib.hid hC
  have HB := Lib.hid hB
  have hs3 : i.state = 3 := by simpa [serves] using hsv
  have KN0 := fun W => do_calls i 2 now (now + 120) (cfI D H) W
  rw [notice_do hm hs3 hn0 (by omega) hD hH] at KN0
  simp only [encDo, InV.val, CfV.val] at KN0
  have KN := Lib.hid KN0
  have hs0 : serves (phI i now D H 0) = false := by unfold serves phI; simp
  have KV0 := serves_calls (phI i now D H 0)
  rw [hs0] at KV0
  simp only [InV.val] at KV0
  have KV := Lib.hid KV0
  have KB0 := fun t W => do_calls (phI i now D H t) 4 (now + t) 0 (cfI D H) W
  have KT0 := fun t (ht : t ≤ D + H) W => (by have h1 := do_calls (phI i now D H t) 8 (now + t) 0 (cfI D H) W; rw [tick_do hm hn0 (by omega) hD hH ht] at h1; simp only [encDo, InV.val, CfV.val] at h1; exact h1 : Calls Try.prog 23 #[.agg (phI i now D H t).cells, .int .u8 8, .int .u64 (now + t), .int .u64 0, .agg (CfV.cells (cfI D H))] W fun e w' => e = .returned (.tuple #[.agg (phI i now D H (t + 1)).cells, .int .u8 (if t = D + H then 2 else 0), .int .i64 0]) ∧ Below W.heap.size W w')
  have KB1 := Lib.hid KB0
  have KT1 := Lib.hid KT0
  have hbt : ∀ t, ∃ ask er, doI (phI i now D H t) 4 (now + t) 0 (cfI D H) = (phI i now D H t, ask, er) := fun t => beat_do
  have HBT := Lib.hid hbt
  have CLX := Lib.hid (fun (W : World) (t : Nat) (e1 : W.heap[w.heap.size]? = some (.cells (phI i now D H t).cells 34 (0, 0))) => (⟨(blk_cell e1 5).trans rfl, (blk_cell e1 7).trans rfl, (blk_cell e1 8).trans rfl⟩ : W.cell? ⟨w.heap.size, 5, none⟩ = some (.int .u8 (phI i now D H t).state) ∧ W.cell? ⟨w.heap.size, 7, none⟩ = some (.bool true) ∧ W.cell? ⟨w.heap.size, 8, none⟩ = some (.int .u64 (now + 120))))
  have CLC := Lib.hid (fun (W : World) (e1 : W.heap[g11]? = some (.cells (CfV.cells (cfI D H)) 41 (0, 0))) => (⟨(blk_cell e1 10).trans rfl, (blk_cell e1 12).trans rfl⟩ : W.cell? ⟨g11, 10, none⟩ = some (.int .u64 (D : Int)) ∧ W.cell? ⟨g11, 12, none⟩ = some (.int .u64 (H : Int))))
  clear hI hC hB KN0 KV0 KB0 KT0 hbt hs0 hs3 hm hsv
  go_wp2_with (first | (go_at_call 23; (with_reducible refine (KN.out _).mono ?_); rintro e w1 ⟨rfl, hb⟩; have HI := Lib.hid (blk_call hb HI.out); have HC := Lib.hid (blk_call hb HC.out); have HB := Lib.hid (below_step HB.out hb); clear hb) | (go_at_call 21; (with_reducible refine (KV.out _).mono ?_); rintro e w1 ⟨rfl, hb⟩; have HI := Lib.hid (blk_call hb HI.out); have HC := Lib.hid (blk_call hb HC.out); have HB := Lib.hid (below_step HB.out hb); clear hb; obtain ⟨cx5, cx7, cx8⟩ := CLX.out _ _ HI.out) | ((with_reducible refine gate_storeT 34 rfl ?_); refine bx_row rfl 34 _ _ rfl _ rfl _ rfl 34 _ HI.out (by kernel_rfl) rfl (by simp [InV.cells, phI, Value.oneCell']) HB.out (Nat.le_refl _) ?_; intro W3 hr hsz hk hb3; have HI := Lib.hid hr; have HC := Lib.hid ((hk _ HNE.out).trans HC.out); have HB := Lib.hid hb3; clear hr hsz hk hb3) | ((with_reducible refine gate_load 34 rfl ?_); refine wpList_load_row rfl 34 _ rfl _ rfl 34 _ _ _ (by exact HI.out) Try.underlying34 rfl (by kernel_rfl) ?_) | ((with_reducible refine gate_load 34 rfl ?_); refine load_row_g (by rfl) 34 _ rfl _ rfl 34 _ _ _ (by exact HI.out) Try.underlying34 rfl (by kernel_rfl) ?_) | ((with_reducible refine gate_load 41 rfl ?_); refine wpList_load_row rfl 41 _ rfl _ rfl 41 _ _ _ (by exact HC.out) Try.underlying41 rfl (by kernel_rfl) ?_))
  all_goals try (exfalso; omega)
  have hcx := HI.out
  have hI := HI.out
  have hC := HC.out
  have hB := HB.out
  go_loopw [14, 15] (fun v14 v15 wr => ∃ t : Nat, t ≤ D + H + 1 ∧ v15 = .int .u64 t ∧ v14 = .int .i64 (if t = D + H + 1 then 1 else 0) ∧ Hid (wr.heap[w.heap.size]? = some (.cells (phI i now D H t).cells 34 (0, 0))) ∧ Hid (wr.heap[g11]? = some (.cells (CfV.cells (cfI D H)) 41 (0, 0))) ∧ Hid (Below w.heap.size w wr)) (fun _ v15 _ => D + H + 1 - (intOf v15).toNat)
  case atStart => exact ⟨0, by omega, rfl, by simp, Lib.hid hI, Lib.hid hC, Lib.hid hB⟩
  case round =>
    clear hI hC hB hcx HI HC HB
    obtain ⟨t, ht, rfl, rfl, HI, HC, HB⟩ := hrel
    obtain ⟨c10, c12⟩ := CLC.out _ HC.out
    by_cases htl : t ≤ D + H
    · obtain ⟨askb, erb, hbb⟩ := HBT.out t
      have KB2 := fun W => KB1.out t W
      rw [hbb] at KB2
      simp only [encDo, InV.val, CfV.val] at KB2
      have KB := Lib.hid KB2
      have KT2 := KT1.out t htl
      have hne : (if t = D + H + 1 then (1 : Int) else 0) = 0 := if_neg (by omega)
      rw [hne]
      clear KB2 hbb hne
      by_cases hlast : t = D + H
      · rw [if_pos hlast] at KT2
        have KT := Lib.hid KT2
        have HLS := Lib.hid hlast
        clear KT2 hlast
        go_wp2_with (first | (go_at_call 23; (with_reducible refine (KB.out _).mono ?_); rintro e w1 ⟨rfl, hb⟩; have HI := Lib.hid (blk_call hb HI.out); have HC := Lib.hid (blk_call hb HC.out); have HB := Lib.hid (below_step HB.out hb); clear hb) | (go_at_call 23; (with_reducible refine (KT.out _).mono ?_); rintro e w1 ⟨rfl, hb⟩; have HI := Lib.hid (blk_call hb HI.out); have HC := Lib.hid (blk_call hb HC.out); have HB := Lib.hid (below_step HB.out hb); clear hb) | ((with_reducible refine gate_storeT 34 rfl ?_); refine wpList_store_row rfl 34 _ _ rfl _ _ rfl rfl 34 _ (heap_alloc_new _ _) (by kernel_rfl) rfl (by simp [InV.cells, phI, Value.oneCell']) ?_; rw [setRow_alloc]) | ((with_reducible refine gate_storeT 34 rfl ?_); refine bx_row rfl 34 _ _ rfl _ rfl _ rfl 34 _ HI.out (by kernel_rfl) rfl (by simp [InV.cells, phI, Value.oneCell']) HB.out (Nat.le_refl _) ?_; intro W3 hr hsz hk hb3; have HI := Lib.hid hr; have HC := Lib.hid ((hk _ HNE.out).trans HC.out); have HB := Lib.hid hb3; clear hr hsz hk hb3) | ((with_reducible refine gate_storeT 34 rfl ?_); refine bx_row rfl 34 _ _ rfl _ rfl _ rfl 34 _ (alloc_old _ _ HI.out) (by kernel_rfl) rfl (by simp [InV.cells, phI, Value.oneCell']) (below_alloc HB.out _) (Nat.le_refl _) ?_; intro W3 hr hsz hk hb3; have HI := Lib.hid hr; have HC := Lib.hid ((hk _ HNE.out).trans (alloc_old _ _ HC.out)); have HB := Lib.hid hb3; clear hr hsz hk hb3) | ((with_reducible refine gate_load 34 rfl ?_); refine wpList_load_row rfl 34 _ rfl _ rfl 34 _ _ _ (by exact HI.out) Try.underlying34 rfl (by kernel_rfl) ?_) | ((with_reducible refine gate_load 34 rfl ?_); refine wpList_load_row rfl 34 _ rfl _ rfl 34 _ _ _ (by exact heap_alloc_new _ _) Try.underlying34 rfl (by kernel_rfl) ?_) | ((with_reducible refine gate_load 41 rfl ?_); refine wpList_load_row rfl 41 _ rfl _ rfl 41 _ _ _ (by exact HC.out) Try.underlying41 rfl (by kernel_rfl) ?_))
        all_goals first
          | (exfalso; omega)
          | exact ⟨⟨t + 1, by omega, by go_num, by rw [if_pos (by have := HLS.out; omega)], HI, HC, HB⟩, by simp only [intOf]; omega⟩
          | trace_state
      · rw [if_neg hlast] at KT2
        have KT := Lib.hid KT2
        have HLS := Lib.hid hlast
        clear KT2 hlast
        go_wp2_with (first | (go_at_call 23; (with_reducible refine (KB.out _).mono ?_); rintro e w1 ⟨rfl, hb⟩; have HI := Lib.hid (blk_call hb HI.out); have HC := Lib.hid (blk_call hb HC.out); have HB := Lib.hid (below_step HB.out hb); clear hb) | (go_at_call 23; (with_reducible refine (KT.out _).mono ?_); rintro e w1 ⟨rfl, hb⟩; have HI := Lib.hid (blk_call hb HI.out); have HC := Lib.hid (blk_call hb HC.out); have HB := Lib.hid (below_step HB.out hb); clear hb) | ((with_reducible refine gate_storeT 34 rfl ?_); refine wpList_store_row rfl 34 _ _ rfl _ _ rfl rfl 34 _ (heap_alloc_new _ _) (by kernel_rfl) rfl (by simp [InV.cells, phI, Value.oneCell']) ?_; rw [setRow_alloc]) | ((with_reducible refine gate_storeT 34 rfl ?_); refine bx_row rfl 34 _ _ rfl _ rfl _ rfl 34 _ HI.out (by kernel_rfl) rfl (by simp [InV.cells, phI, Value.oneCell']) HB.out (Nat.le_refl _) ?_; intro W3 hr hsz hk hb3; have HI := Lib.hid hr; have HC := Lib.hid ((hk _ HNE.out).trans HC.out); have HB := Lib.hid hb3; clear hr hsz hk hb3) | ((with_reducible refine gate_storeT 34 rfl ?_); refine bx_row rfl 34 _ _ rfl _ rfl _ rfl 34 _ (alloc_old _ _ HI.out) (by kernel_rfl) rfl (by simp [InV.cells, phI, Value.oneCell']) (below_alloc HB.out _) (Nat.le_refl _) ?_; intro W3 hr hsz hk hb3; have HI := Lib.hid hr; have HC := Lib.hid ((hk _ HNE.out).trans (alloc_old _ _ HC.out)); have HB := Lib.hid hb3; clear hr hsz hk hb3) | ((with_reducible refine gate_load 34 rfl ?_); refine wpList_load_row rfl 34 _ rfl _ rfl 34 _ _ _ (by exact HI.out) Try.underlying34 rfl (by kernel_rfl) ?_) | ((with_reducible refine gate_load 34 rfl ?_); refine wpList_load_row rfl 34 _ rfl _ rfl 34 _ _ _ (by exact heap_alloc_new _ _) Try.underlying34 rfl (by kernel_rfl) ?_) | ((with_reducible refine gate_load 41 rfl ?_); refine wpList_load_row rfl 41 _ rfl _ rfl 41 _ _ _ (by exact HC.out) Try.underlying41 rfl (by kernel_rfl) ?_))
        all_goals first
          | (exfalso; omega)
          | exact ⟨⟨t + 1, by omega, by go_num, by rw [if_neg (by have := HLS.out; omega)], HI, HC, HB⟩, by simp only [intOf]; omega⟩
          | trace_state
    · have e : t = D + H + 1 := by omega
      subst e
      rw [if_pos rfl]
      obtain ⟨cx5, cx7, cx8⟩ := CLX.out _ _ HI.out
      have hst6 : (phI i now D H (D + H + 1)).state = 6 := by
        unfold phI
        have c1 : ¬ D + H + 1 ≤ D := by omega
        have c2 : ¬ D + H + 1 ≤ D + H := by omega
        simp only [c1, c2, if_false]
      rw [hst6] at cx5
      clear hst6
      go_wp2_with (first | (go_at_call 22; (with_reducible refine (KL.out _).mono ?_); rintro e w1 ⟨rfl, hb⟩; have HB := Lib.hid (below_step HB.out hb); clear hb))
      all_goals first
        | (exfalso; omega)
        | (go_ret; exact ⟨rfl, HB.out⟩)
        | trace_state
end Go.Proofs.Ytaoflcmjmhfblaa.I
