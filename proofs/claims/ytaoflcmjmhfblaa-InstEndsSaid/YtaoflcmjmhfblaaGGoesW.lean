/- The law InstGoes, walked. -/
import Derived.Test.YtaoflcmjmhfblaaGStepP
namespace Go.Proofs.Ytaoflcmjmhfblaa.I
open Go.RowKit Go.Proofs.YtaoflcmjmhfblaaW.PrintWords Go.Proofs.YtaoflcmjmhfblaaW.PrintLast Go.Proofs.YtaoflcmjmhfblaaW.PrintMore Go.Proofs.Ytaoflcmjmhfblaa.H Go.Shelf
set_option linter.unusedVariables false
set_option linter.unusedSimpArgs false
theorem eqSame (d : Nat) (w : World) (x : InV) : (Op.equalIn (d + 2) 34 (.agg x.cells) (.agg x.cells)).run Try.prog w = .ok true w := by
  unfold InV.cells
  rw [eqInst]
  simp
attribute [local go_sem high] eqSame
set_option maxHeartbeats 16000000 in
set_option maxRecDepth 100000 in
theorem goes_walk (i : InV) (A : Option Addr) (c : Nat) (l : List DeedV) (hin hout dr : Int) (w : World) (h : Kd.C kDeed w A l.length l) (hl : ∀ d ∈ l, 0 ≤ d.wait ∧ d.wait ≤ 255 ∧ 0 ≤ d.at_ ∧ d.at_ ≤ 18446744073709551615) (hi0 : 0 ≤ hin) (hi1 : hin ≤ 65535) (ho0 : 0 ≤ hout) (ho1 : hout ≤ 65535) (hd0 : 0 ≤ dr) (hd1 : dr ≤ 65535) :
    Calls Try.prog 6 #[i.val, .slice A l.length c, .int .u16 hin, .int .u16 hout, .int .u16 dr] w fun e w' => e = .returned (.bool true) ∧ Below w.heap.size w w' := by
  have hmx := Kd.C_max h
  obtain ⟨n, hn⟩ : ∃ n, l.length = n := ⟨_, rfl⟩
  rw [hn] at h hmx ⊢
  have H := Lib.hid h
  have HL := Lib.hid hl
  have HN := Lib.hid hn
  clear h hl hn
  have KL := Lib.hid lives16_calls
  obtain ⟨m, hm⟩ : ∃ m, instMay i = m := ⟨_, rfl⟩
  have KM0 := instMay_calls i
  rw [hm] at KM0
  simp only [InV.val] at KM0 ⊢
  have KM := Lib.hid KM0
  clear KM0
  have HBel : Below w.heap.size w w := Below.refl _ _
  go_enter Try.func6, Try.ntmps6
  go_upto_region 1 with fail
  refine gen_w (fun W => W.heap[w.heap.size]? = some (.cells i.cells 34 (0, 0)) ∧ Below w.heap.size w W) ⟨heap_alloc_new _ _, below_alloc HBel _⟩ ?_
  rintro W ⟨hI, hB⟩
  have HI := Lib.hid hI
  have HB := Lib.hid hB
  clear hI hB HBel
  cases m
  · go_wp2_with (first | (go_at_call 20; (with_reducible refine (KM.out _).mono ?_); rintro e w1 ⟨rfl, hb⟩; have HI := Lib.hid (blk_call hb HI.out); have HB := Lib.hid (below_step HB.out hb); clear hb) | ((with_reducible refine gate_load 34 rfl ?_); refine wpList_load_row rfl 34 _ rfl _ rfl 34 _ _ _ (by exact HI.out) Try.underlying34 rfl (by kernel_rfl) ?_) | (go_at_call 22; (with_reducible refine (KL.out _).mono ?_); rintro e w1 ⟨rfl, hb⟩; have HB := Lib.hid (below_step HB.out hb); clear hb))
    go_ret
    exact ⟨rfl, HB.out⟩
  go_wp2_with (first | (go_at_call 20; (with_reducible refine (KM.out _).mono ?_); rintro e w1 ⟨rfl, hb⟩; have HI := Lib.hid (blk_call hb HI.out); have HB := Lib.hid (below_step HB.out hb); clear hb) | ((with_reducible refine gate_load 34 rfl ?_); refine wpList_load_row rfl 34 _ rfl _ rfl 34 _ _ _ (by exact HI.out) Try.underlying34 rfl (by kernel_rfl) ?_) | ((with_reducible refine gate_storeT 41 rfl ?_); refine wpList_store_row rfl 41 _ _ rfl _ _ rfl rfl 41 _ (heap_alloc_new _ _) (by kernel_rfl) rfl (by simp [Value.oneCell']) ?_; rw [setRow_alloc]))
  have hlt11 := blk_lt HI.out
  refine gen_w (fun W2 => W2.heap[w.heap.size]? = some (.cells i.cells 34 (0, 0)) ∧ W2.heap[w1.heap.size]? = some (.cells (CfV.cells ⟨hin, hout, dr, 5⟩) 41 (0, 0)) ∧ Below w.heap.size w W2) ⟨alloc_old _ _ HI.out, heap_alloc_new _ _, below_alloc HB.out _⟩ ?_
  clear HI HB KM
  generalize w1.heap.size = g11 at *
  clear w1
  rintro W2 ⟨hI, hC, hB⟩
  have HNE := Lib.hid (show g11 ≠ w.heap.size by omega)
  obtain ⟨cf, hcf⟩ : ∃ cf : CfV, cf = ⟨hin, hout, dr, 5⟩ := ⟨_, rfl⟩
  rw [← hcf] at hC
  have hcok : CfOk cf := by rw [hcf]; exact ⟨hi0, hi1, ho0, ho1, hd0, hd1, rfl⟩
  clear hcf hi0 hi1 ho0 ho1 hd0 hd1 hlt11
  go_loopw [12, 13, 14] (fun v12 v13 v14 wr => ∃ (k : Nat) (x : InV) (now : Int) (left : Bool), k ≤ n ∧ k ≤ 100 ∧ 0 ≤ now ∧ now ≤ 255 * k ∧ v12 = .int .u64 now ∧ v13 = .bool left ∧ v14 = .int .i64 k ∧ Hid (instMay x = true ∧ (left = true → x.state = 4 ∨ x.state = 5 ∨ x.state = 6)) ∧ Hid (wr.heap[w.heap.size]? = some (.cells x.cells 34 (0, 0))) ∧ Hid (wr.heap[g11]? = some (.cells cf.cells 41 (0, 0))) ∧ Hid (Below w.heap.size w wr)) (fun _ _ v14 _ => 100 - (intOf v14).toNat)
  case atStart => exact ⟨0, i, 0, false, by omega, by omega, by omega, by omega, rfl, rfl, rfl, Lib.hid ⟨hm, fun h => by cases h⟩, Lib.hid hI, Lib.hid hC, Lib.hid hB⟩
  case round =>
    clear hI hC hB hm W2
    obtain ⟨k, x, now, left, hkn, hk100, hnow0, hnow1, rfl, rfl, rfl, HX, HI, HC, HB⟩ := hrel
    by_cases hlt : k < n
    · by_cases hlt6 : k < 100
      · obtain ⟨ad, rfl, q0, q1, q2⟩ := deed_at (Kd.C_below H.out HB.out) k hlt
        obtain ⟨d, hd⟩ : ∃ d, l.getD k ⟨0, 0, 0⟩ = d := ⟨_, rfl⟩
        have hdw := HL.out (l.getD k ⟨0, 0, 0⟩) (by
          rw [List.getD_eq_getElem?_getD, List.getElem?_eq_getElem (by rw [HN.out]; exact hlt)]
          exact List.getElem_mem _)
        rw [hd] at q0 q1 q2 hdw
        clear hd
        obtain ⟨hw0, hw1, ha0, ha1⟩ := hdw
        obtain ⟨⟨y, ask, er⟩, hdo⟩ : ∃ r, doI x d.what (now + d.wait) (d.at_ % 1000) cf = r := ⟨_, rfl⟩
        have hst := step_goes x y d.what (now + d.wait) (d.at_ % 1000) ask er cf HX.out.1 hcok (by omega) (by omega) (by omega) hdo
        have KD0 := fun W => do_calls x d.what (now + d.wait) (d.at_ % 1000) cf W
        rw [hdo] at KD0
        clear hdo
        have KD := Lib.hid KD0
        clear KD0
        have HST := Lib.hid hst
        clear hst
        go_upto_region 10 with fail
        refine goes_reg10 w.heap.size g11 n c k ad x y cf d.what (now + d.wait) d.at_ ask er hlt (by omega) (by omega) ha0 ha1 KD.out _ _ rfl rfl rfl rfl rfl rfl rfl HI.out HC.out q0 q2 ?_
        intro W2 g hb hgl hg
        clear q0 q1 q2 KD
        have hgn := Nat.lt_of_lt_of_le (blk_lt HI.out) hgl
        have HI := Lib.hid (blk_call hb HI.out)
        have HC := Lib.hid (blk_call hb HC.out)
        have HB := Lib.hid (below_step HB.out hb)
        have HG := Lib.hid hg
        clear hb hgl
        simp only [put_none_, setA, List.foldl_cons, List.foldl_nil, List.setIfInBounds_toArray, List.set_cons_succ, List.set_cons_zero]
        rcases HST.out with ⟨he, rfl, rfl⟩ | ⟨rfl, hmy, y0, y3, y11, h6, hask, h3, h4⟩
        · have he2 : (er == 0) = false := by simpa using he
          have he3 : (er != 0) = true := by simpa using he
          clear HST
          go_wp2_with (first | ((with_reducible refine gate_storeT 34 rfl ?_); refine bx_row rfl 34 _ _ rfl _ rfl _ rfl 34 _ HI.out (by kernel_rfl) rfl (by simp [InV.cells, Value.oneCell']) HB.out (Nat.le_refl _) ?_; intro W3 hr hsz hk hb3; have HI := Lib.hid hr; have HC := Lib.hid ((hk _ HNE.out).trans HC.out); have HB := Lib.hid hb3; clear hr hsz hk hb3) | ((with_reducible refine gate_load 34 rfl ?_); refine wpList_load_row rfl 34 _ rfl _ rfl 34 _ _ _ (by first | exact HI.out | exact HG.out) Try.underlying34 rfl (by kernel_rfl) ?_) | ((with_reducible refine gate_load 34 rfl ?_); refine load_row_g (by rfl) 34 _ rfl _ rfl 34 _ _ _ (by first | exact HI.out | exact HG.out) Try.underlying34 rfl (by kernel_rfl) ?_))
          all_goals first
            | (exfalso; omega)
            | exact ⟨⟨k + 1, y, now + d.wait, left, by omega, by omega, by omega, by omega, rfl, rfl, by go_num, HX, HI, HC, HB⟩, by simp only [intOf]; omega⟩
            | trace_state
        · clear HST
          have hx := HX.out
          have KM0 := instMay_calls y
          have KV0 := serves_calls y
          have KW0 := comes_calls y
          rw [hmy] at KM0
          simp only [InV.val] at KM0 KV0 KW0
          have KM := Lib.hid KM0
          have KV := Lib.hid KV0
          have KW := Lib.hid KW0
          clear KM0 KV0 KW0
          have CL := Lib.hid (fun (W : World) (e1 : W.heap[w.heap.size]? = some (.cells x.cells 34 (0, 0))) (e2 : W.heap[g]? = some (.cells y.cells 34 (0, 0))) => (⟨(blk_cell e1 0).trans rfl, (blk_cell e1 3).trans rfl, (blk_cell e1 5).trans rfl, (blk_cell e1 11).trans rfl, by rw [← y0]; exact (blk_cell e2 0).trans rfl, by rw [← y3]; exact (blk_cell e2 3).trans rfl, (blk_cell e2 5).trans rfl, by rw [← y11]; exact (blk_cell e2 11).trans rfl⟩ : W.cell? ⟨w.heap.size, 0, none⟩ = some (.int .u64 x.id) ∧ W.cell? ⟨w.heap.size, 3, none⟩ = some (.int .i64 x.weight) ∧ W.cell? ⟨w.heap.size, 5, none⟩ = some (.int .u8 x.state) ∧ W.cell? ⟨w.heap.size, 11, none⟩ = some (.int .u32 x.version) ∧ W.cell? ⟨g, 0, none⟩ = some (.int .u64 x.id) ∧ W.cell? ⟨g, 3, none⟩ = some (.int .i64 x.weight) ∧ W.cell? ⟨g, 5, none⟩ = some (.int .u8 y.state) ∧ W.cell? ⟨g, 11, none⟩ = some (.int .u32 x.version)))
          obtain ⟨cx0, cx3, cx5, cx11, cy0, cy3, cy5, cy11⟩ := CL.out _ HI.out HG.out
          clear y0 y3 y11
          have hl2 := hx.2
          by_cases hs6 : x.state = 6
          · cases left
            · clear hl2
              obtain rfl := h6 hs6
              have f1 : (y.state == 6) = true := by rw [beq_dec]; exact decide_eq_true (by omega)
              have f1' : (y.state != 6) = false := by rw [bne, f1]; rfl
              have f3 : (y.state == 3) = false := by rw [beq_dec]; exact decide_eq_false (by omega)
              have f3' : (y.state != 3) = true := by rw [bne, f3]; rfl
              have f5 : (ask == 2) = false := by rw [beq_dec]; exact decide_eq_false (by omega)
              have f5' : (ask != 2) = true := by rw [bne, f5]; rfl
              have HHX := Lib.hid hx
              clear hx h3 h4 hask h6
              go_upto_region 17 with (first | (go_at_call 20; (with_reducible refine (KM.out _).mono ?_); rintro e w1 ⟨rfl, hb⟩; have HI := Lib.hid (blk_call hb HI.out); have HC := Lib.hid (blk_call hb HC.out); have HG := Lib.hid (blk_call hb HG.out); have HB := Lib.hid (below_step HB.out hb); obtain ⟨cx0, cx3, cx5, cx11, cy0, cy3, cy5, cy11⟩ := CL.out _ HI.out HG.out; clear hb) | (go_at_call 21; (with_reducible refine (KV.out _).mono ?_); rintro e w1 ⟨rfl, hb⟩; have HI := Lib.hid (blk_call hb HI.out); have HC := Lib.hid (blk_call hb HC.out); have HG := Lib.hid (blk_call hb HG.out); have HB := Lib.hid (below_step HB.out hb); obtain ⟨cx0, cx3, cx5, cx11, cy0, cy3, cy5, cy11⟩ := CL.out _ HI.out HG.out; clear hb) | (go_at_call 24; (with_reducible refine (KW.out _).mono ?_); rintro e w1 ⟨rfl, hb⟩; have HI := Lib.hid (blk_call hb HI.out); have HC := Lib.hid (blk_call hb HC.out); have HG := Lib.hid (blk_call hb HG.out); have HB := Lib.hid (below_step HB.out hb); obtain ⟨cx0, cx3, cx5, cx11, cy0, cy3, cy5, cy11⟩ := CL.out _ HI.out HG.out; clear hb) | ((with_reducible refine gate_storeT 34 rfl ?_); refine bx_row rfl 34 _ _ rfl _ rfl _ rfl 34 _ HI.out (by kernel_rfl) rfl (by simp [InV.cells, Value.oneCell']) HB.out (Nat.le_refl _) ?_; intro W3 hr hsz hk hb3; have HI := Lib.hid hr; have HC := Lib.hid ((hk _ HNE.out).trans HC.out); have HB := Lib.hid hb3; clear hr hsz hk hb3) | ((with_reducible refine gate_load 34 rfl ?_); refine wpList_load_row rfl 34 _ rfl _ rfl 34 _ _ _ (by first | exact HI.out | exact HG.out) Try.underlying34 rfl (by kernel_rfl) ?_) | ((with_reducible refine gate_load 34 rfl ?_); refine load_row_g (by rfl) 34 _ rfl _ rfl 34 _ _ _ (by first | exact HI.out | exact HG.out) Try.underlying34 rfl (by kernel_rfl) ?_))
              all_goals try (exfalso; omega)
              all_goals go_upto_region 19 with fail
              all_goals try (exfalso; omega)
              all_goals go_wp2_with (first | ((with_reducible refine gate_storeT 34 rfl ?_); refine bx_row rfl 34 _ _ rfl _ rfl _ rfl 34 _ HI.out (by kernel_rfl) rfl (by simp [InV.cells, Value.oneCell']) HB.out (Nat.le_refl _) ?_; intro W3 hr hsz hk hb3; have HI := Lib.hid hr; have HC := Lib.hid ((hk _ HNE.out).trans HC.out); have HB := Lib.hid hb3; clear hr hsz hk hb3) | ((with_reducible refine gate_load 34 rfl ?_); refine wpList_load_row rfl 34 _ rfl _ rfl 34 _ _ _ (by first | exact HI.out | exact HG.out) Try.underlying34 rfl (by kernel_rfl) ?_))
              all_goals first
                | (exfalso; omega)
                | exact ⟨⟨k + 1, y, now + d.wait, false, by omega, by omega, by omega, by omega, rfl, rfl, by go_num, Lib.hid ⟨hmy, fun hl => by cases hl⟩, HI, HC, HB⟩, by simp only [intOf]; omega⟩
                | trace_state
            · have hl3 := hl2 rfl
              clear hl2
              obtain rfl := h6 hs6
              have f1 : (y.state == 6) = true := by rw [beq_dec]; exact decide_eq_true (by omega)
              have f1' : (y.state != 6) = false := by rw [bne, f1]; rfl
              have f3 : (y.state == 3) = false := by rw [beq_dec]; exact decide_eq_false (by omega)
              have f3' : (y.state != 3) = true := by rw [bne, f3]; rfl
              have f5 : (ask == 2) = false := by rw [beq_dec]; exact decide_eq_false (by omega)
              have f5' : (ask != 2) = true := by rw [bne, f5]; rfl
              have hfin : y.state = 4 ∨ y.state = 5 ∨ y.state = 6 := by omega
              have g1 : serves y = false := by unfold serves; rw [beq_dec]; exact decide_eq_false (by omega)
              have g2 : comes y = false := by unfold comes; simp only [beq_dec, Bool.or_eq_false_iff, decide_eq_false_iff_not]; omega
              have KV1 := KV.out
              have KW1 := KW.out
              rw [g1] at KV1
              rw [g2] at KW1
              have KV := Lib.hid KV1
              have KW := Lib.hid KW1
              clear KV1 KW1 g1 g2
              have HHX := Lib.hid hx
              clear hx h3 h4 hask h6
              go_upto_region 17 with (first | (go_at_call 20; (with_reducible refine (KM.out _).mono ?_); rintro e w1 ⟨rfl, hb⟩; have HI := Lib.hid (blk_call hb HI.out); have HC := Lib.hid (blk_call hb HC.out); have HG := Lib.hid (blk_call hb HG.out); have HB := Lib.hid (below_step HB.out hb); obtain ⟨cx0, cx3, cx5, cx11, cy0, cy3, cy5, cy11⟩ := CL.out _ HI.out HG.out; clear hb) | (go_at_call 21; (with_reducible refine (KV.out _).mono ?_); rintro e w1 ⟨rfl, hb⟩; have HI := Lib.hid (blk_call hb HI.out); have HC := Lib.hid (blk_call hb HC.out); have HG := Lib.hid (blk_call hb HG.out); have HB := Lib.hid (below_step HB.out hb); obtain ⟨cx0, cx3, cx5, cx11, cy0, cy3, cy5, cy11⟩ := CL.out _ HI.out HG.out; clear hb) | (go_at_call 24; (with_reducible refine (KW.out _).mono ?_); rintro e w1 ⟨rfl, hb⟩; have HI := Lib.hid (blk_call hb HI.out); have HC := Lib.hid (blk_call hb HC.out); have HG := Lib.hid (blk_call hb HG.out); have HB := Lib.hid (below_step HB.out hb); obtain ⟨cx0, cx3, cx5, cx11, cy0, cy3, cy5, cy11⟩ := CL.out _ HI.out HG.out; clear hb) | ((with_reducible refine gate_storeT 34 rfl ?_); refine bx_row rfl 34 _ _ rfl _ rfl _ rfl 34 _ HI.out (by kernel_rfl) rfl (by simp [InV.cells, Value.oneCell']) HB.out (Nat.le_refl _) ?_; intro W3 hr hsz hk hb3; have HI := Lib.hid hr; have HC := Lib.hid ((hk _ HNE.out).trans HC.out); have HB := Lib.hid hb3; clear hr hsz hk hb3) | ((with_reducible refine gate_load 34 rfl ?_); refine wpList_load_row rfl 34 _ rfl _ rfl 34 _ _ _ (by first | exact HI.out | exact HG.out) Try.underlying34 rfl (by kernel_rfl) ?_) | ((with_reducible refine gate_load 34 rfl ?_); refine load_row_g (by rfl) 34 _ rfl _ rfl 34 _ _ _ (by first | exact HI.out | exact HG.out) Try.underlying34 rfl (by kernel_rfl) ?_))
              all_goals try (exfalso; omega)
              all_goals go_wp2_with (first | (go_at_call 20; (with_reducible refine (KM.out _).mono ?_); rintro e w1 ⟨rfl, hb⟩; have HI := Lib.hid (blk_call hb HI.out); have HC := Lib.hid (blk_call hb HC.out); have HG := Lib.hid (blk_call hb HG.out); have HB := Lib.hid (below_step HB.out hb); obtain ⟨cx0, cx3, cx5, cx11, cy0, cy3, cy5, cy11⟩ := CL.out _ HI.out HG.out; clear hb) | (go_at_call 21; (with_reducible refine (KV.out _).mono ?_); rintro e w1 ⟨rfl, hb⟩; have HI := Lib.hid (blk_call hb HI.out); have HC := Lib.hid (blk_call hb HC.out); have HG := Lib.hid (blk_call hb HG.out); have HB := Lib.hid (below_step HB.out hb); obtain ⟨cx0, cx3, cx5, cx11, cy0, cy3, cy5, cy11⟩ := CL.out _ HI.out HG.out; clear hb) | (go_at_call 24; (with_reducible refine (KW.out _).mono ?_); rintro e w1 ⟨rfl, hb⟩; have HI := Lib.hid (blk_call hb HI.out); have HC := Lib.hid (blk_call hb HC.out); have HG := Lib.hid (blk_call hb HG.out); have HB := Lib.hid (below_step HB.out hb); obtain ⟨cx0, cx3, cx5, cx11, cy0, cy3, cy5, cy11⟩ := CL.out _ HI.out HG.out; clear hb) | ((with_reducible refine gate_storeT 34 rfl ?_); refine bx_row rfl 34 _ _ rfl _ rfl _ rfl 34 _ HI.out (by kernel_rfl) rfl (by simp [InV.cells, Value.oneCell']) HB.out (Nat.le_refl _) ?_; intro W3 hr hsz hk hb3; have HI := Lib.hid hr; have HC := Lib.hid ((hk _ HNE.out).trans HC.out); have HB := Lib.hid hb3; clear hr hsz hk hb3) | ((with_reducible refine gate_load 34 rfl ?_); refine wpList_load_row rfl 34 _ rfl _ rfl 34 _ _ _ (by first | exact HI.out | exact HG.out) Try.underlying34 rfl (by kernel_rfl) ?_) | ((with_reducible refine gate_load 34 rfl ?_); refine load_row_g (by rfl) 34 _ rfl _ rfl 34 _ _ _ (by first | exact HI.out | exact HG.out) Try.underlying34 rfl (by kernel_rfl) ?_))
              all_goals first
                | (exfalso; omega)
                | exact ⟨⟨k + 1, y, now + d.wait, true, by omega, by omega, by omega, by omega, rfl, rfl, by go_num, Lib.hid ⟨hmy, fun hl => hfin⟩, HI, HC, HB⟩, by simp only [intOf]; omega⟩
                | trace_state
          · by_cases hy6 : y.state = 6
            · by_cases hs3 : x.state = 3
              · cases left
                · clear hl2
                  have f1 : (x.state == 6) = false := by rw [beq_dec]; exact decide_eq_false (by omega)
                  have f1' : (x.state != 6) = true := by rw [bne, f1]; rfl
                  have f2 : (y.state == 6) = true := by rw [beq_dec]; exact decide_eq_true (by omega)
                  have f2' : (y.state != 6) = false := by rw [bne, f2]; rfl
                  have f3 : (x.state == 3) = true := by rw [beq_dec]; exact decide_eq_true (by omega)
                  have f3' : (x.state != 3) = false := by rw [bne, f3]; rfl
                  have f4 : (y.state == 3) = false := by rw [beq_dec]; exact decide_eq_false (by omega)
                  have f4' : (y.state != 3) = true := by rw [bne, f4]; rfl
                  have f5 : (ask == 2) = true := by rw [beq_dec]; exact decide_eq_true (by omega)
                  have f5' : (ask != 2) = false := by rw [bne, f5]; rfl
                  have hfin : y.state = 4 ∨ y.state = 5 ∨ y.state = 6 := by omega
                  have g1 : serves y = false := by unfold serves; rw [beq_dec]; exact decide_eq_false (by omega)
                  have g2 : comes y = false := by unfold comes; simp only [beq_dec, Bool.or_eq_false_iff, decide_eq_false_iff_not]; omega
                  have KV1 := KV.out
                  have KW1 := KW.out
                  rw [g1] at KV1
                  rw [g2] at KW1
                  have KV := Lib.hid KV1
                  have KW := Lib.hid KW1
                  clear KV1 KW1 g1 g2
                  have HHX := Lib.hid hx
                  clear hx h3 h4 hask h6
                  go_upto_region 17 with (first | (go_at_call 20; (with_reducible refine (KM.out _).mono ?_); rintro e w1 ⟨rfl, hb⟩; have HI := Lib.hid (blk_call hb HI.out); have HC := Lib.hid (blk_call hb HC.out); have HG := Lib.hid (blk_call hb HG.out); have HB := Lib.hid (below_step HB.out hb); obtain ⟨cx0, cx3, cx5, cx11, cy0, cy3, cy5, cy11⟩ := CL.out _ HI.out HG.out; clear hb) | (go_at_call 21; (with_reducible refine (KV.out _).mono ?_); rintro e w1 ⟨rfl, hb⟩; have HI := Lib.hid (blk_call hb HI.out); have HC := Lib.hid (blk_call hb HC.out); have HG := Lib.hid (blk_call hb HG.out); have HB := Lib.hid (below_step HB.out hb); obtain ⟨cx0, cx3, cx5, cx11, cy0, cy3, cy5, cy11⟩ := CL.out _ HI.out HG.out; clear hb) | (go_at_call 24; (with_reducible refine (KW.out _).mono ?_); rintro e w1 ⟨rfl, hb⟩; have HI := Lib.hid (blk_call hb HI.out); have HC := Lib.hid (blk_call hb HC.out); have HG := Lib.hid (blk_call hb HG.out); have HB := Lib.hid (below_step HB.out hb); obtain ⟨cx0, cx3, cx5, cx11, cy0, cy3, cy5, cy11⟩ := CL.out _ HI.out HG.out; clear hb) | ((with_reducible refine gate_storeT 34 rfl ?_); refine bx_row rfl 34 _ _ rfl _ rfl _ rfl 34 _ HI.out (by kernel_rfl) rfl (by simp [InV.cells, Value.oneCell']) HB.out (Nat.le_refl _) ?_; intro W3 hr hsz hk hb3; have HI := Lib.hid hr; have HC := Lib.hid ((hk _ HNE.out).trans HC.out); have HB := Lib.hid hb3; clear hr hsz hk hb3) | ((with_reducible refine gate_load 34 rfl ?_); refine wpList_load_row rfl 34 _ rfl _ rfl 34 _ _ _ (by first | exact HI.out | exact HG.out) Try.underlying34 rfl (by kernel_rfl) ?_))
                  all_goals try (exfalso; omega)
                  all_goals go_wp2_with (first | (go_at_call 20; (with_reducible refine (KM.out _).mono ?_); rintro e w1 ⟨rfl, hb⟩; have HI := Lib.hid (blk_call hb HI.out); have HC := Lib.hid (blk_call hb HC.out); have HG := Lib.hid (blk_call hb HG.out); have HB := Lib.hid (below_step HB.out hb); obtain ⟨cx0, cx3, cx5, cx11, cy0, cy3, cy5, cy11⟩ := CL.out _ HI.out HG.out; clear hb) | (go_at_call 21; (with_reducible refine (KV.out _).mono ?_); rintro e w1 ⟨rfl, hb⟩; have HI := Lib.hid (blk_call hb HI.out); have HC := Lib.hid (blk_call hb HC.out); have HG := Lib.hid (blk_call hb HG.out); have HB := Lib.hid (below_step HB.out hb); obtain ⟨cx0, cx3, cx5, cx11, cy0, cy3, cy5, cy11⟩ := CL.out _ HI.out HG.out; clear hb) | (go_at_call 24; (with_reducible refine (KW.out _).mono ?_); rintro e w1 ⟨rfl, hb⟩; have HI := Lib.hid (blk_call hb HI.out); have HC := Lib.hid (blk_call hb HC.out); have HG := Lib.hid (blk_call hb HG.out); have HB := Lib.hid (below_step HB.out hb); obtain ⟨cx0, cx3, cx5, cx11, cy0, cy3, cy5, cy11⟩ := CL.out _ HI.out HG.out; clear hb) | ((with_reducible refine gate_storeT 34 rfl ?_); refine bx_row rfl 34 _ _ rfl _ rfl _ rfl 34 _ HI.out (by kernel_rfl) rfl (by simp [InV.cells, Value.oneCell']) HB.out (Nat.le_refl _) ?_; intro W3 hr hsz hk hb3; have HI := Lib.hid hr; have HC := Lib.hid ((hk _ HNE.out).trans HC.out); have HB := Lib.hid hb3; clear hr hsz hk hb3) | ((with_reducible refine gate_load 34 rfl ?_); refine wpList_load_row rfl 34 _ rfl _ rfl 34 _ _ _ (by first | exact HI.out | exact HG.out) Try.underlying34 rfl (by kernel_rfl) ?_) | ((with_reducible refine gate_load 34 rfl ?_); refine load_row_g (by rfl) 34 _ rfl _ rfl 34 _ _ _ (by first | exact HI.out | exact HG.out) Try.underlying34 rfl (by kernel_rfl) ?_))
                  all_goals first
                    | (exfalso; omega)
                    | exact ⟨⟨k + 1, y, now + d.wait, true, by omega, by omega, by omega, by omega, rfl, rfl, by go_num, Lib.hid ⟨hmy, fun hl => hfin⟩, HI, HC, HB⟩, by simp only [intOf]; omega⟩
                    | trace_state
                · exfalso; have := hl2 rfl; omega
              · cases left
                · clear hl2
                  have f1 : (x.state == 6) = false := by rw [beq_dec]; exact decide_eq_false (by omega)
                  have f1' : (x.state != 6) = true := by rw [bne, f1]; rfl
                  have f2 : (y.state == 6) = true := by rw [beq_dec]; exact decide_eq_true (by omega)
                  have f2' : (y.state != 6) = false := by rw [bne, f2]; rfl
                  have f3 : (x.state == 3) = false := by rw [beq_dec]; exact decide_eq_false (by omega)
                  have f3' : (x.state != 3) = true := by rw [bne, f3]; rfl
                  have f4 : (y.state == 3) = false := by rw [beq_dec]; exact decide_eq_false (by omega)
                  have f4' : (y.state != 3) = true := by rw [bne, f4]; rfl
                  have f5 : (ask == 2) = true := by rw [beq_dec]; exact decide_eq_true (by omega)
                  have f5' : (ask != 2) = false := by rw [bne, f5]; rfl
                  have HHX := Lib.hid hx
                  clear hx h3 h4 hask h6
                  go_upto_region 17 with (first | (go_at_call 20; (with_reducible refine (KM.out _).mono ?_); rintro e w1 ⟨rfl, hb⟩; have HI := Lib.hid (blk_call hb HI.out); have HC := Lib.hid (blk_call hb HC.out); have HG := Lib.hid (blk_call hb HG.out); have HB := Lib.hid (below_step HB.out hb); obtain ⟨cx0, cx3, cx5, cx11, cy0, cy3, cy5, cy11⟩ := CL.out _ HI.out HG.out; clear hb) | (go_at_call 21; (with_reducible refine (KV.out _).mono ?_); rintro e w1 ⟨rfl, hb⟩; have HI := Lib.hid (blk_call hb HI.out); have HC := Lib.hid (blk_call hb HC.out); have HG := Lib.hid (blk_call hb HG.out); have HB := Lib.hid (below_step HB.out hb); obtain ⟨cx0, cx3, cx5, cx11, cy0, cy3, cy5, cy11⟩ := CL.out _ HI.out HG.out; clear hb) | (go_at_call 24; (with_reducible refine (KW.out _).mono ?_); rintro e w1 ⟨rfl, hb⟩; have HI := Lib.hid (blk_call hb HI.out); have HC := Lib.hid (blk_call hb HC.out); have HG := Lib.hid (blk_call hb HG.out); have HB := Lib.hid (below_step HB.out hb); obtain ⟨cx0, cx3, cx5, cx11, cy0, cy3, cy5, cy11⟩ := CL.out _ HI.out HG.out; clear hb) | ((with_reducible refine gate_storeT 34 rfl ?_); refine bx_row rfl 34 _ _ rfl _ rfl _ rfl 34 _ HI.out (by kernel_rfl) rfl (by simp [InV.cells, Value.oneCell']) HB.out (Nat.le_refl _) ?_; intro W3 hr hsz hk hb3; have HI := Lib.hid hr; have HC := Lib.hid ((hk _ HNE.out).trans HC.out); have HB := Lib.hid hb3; clear hr hsz hk hb3) | ((with_reducible refine gate_load 34 rfl ?_); refine wpList_load_row rfl 34 _ rfl _ rfl 34 _ _ _ (by first | exact HI.out | exact HG.out) Try.underlying34 rfl (by kernel_rfl) ?_))
                  all_goals try (exfalso; omega)
                  all_goals go_upto_region 19 with fail
                  all_goals try (exfalso; omega)
                  all_goals go_wp2_with (first | ((with_reducible refine gate_storeT 34 rfl ?_); refine bx_row rfl 34 _ _ rfl _ rfl _ rfl 34 _ HI.out (by kernel_rfl) rfl (by simp [InV.cells, Value.oneCell']) HB.out (Nat.le_refl _) ?_; intro W3 hr hsz hk hb3; have HI := Lib.hid hr; have HC := Lib.hid ((hk _ HNE.out).trans HC.out); have HB := Lib.hid hb3; clear hr hsz hk hb3) | ((with_reducible refine gate_load 34 rfl ?_); refine wpList_load_row rfl 34 _ rfl _ rfl 34 _ _ _ (by first | exact HI.out | exact HG.out) Try.underlying34 rfl (by kernel_rfl) ?_))
                  all_goals first
                    | (exfalso; omega)
                    | exact ⟨⟨k + 1, y, now + d.wait, false, by omega, by omega, by omega, by omega, rfl, rfl, by go_num, Lib.hid ⟨hmy, fun hl => by cases hl⟩, HI, HC, HB⟩, by simp only [intOf]; omega⟩
                    | trace_state
                · have hl3 := hl2 rfl
                  clear hl2
                  have f1 : (x.state == 6) = false := by rw [beq_dec]; exact decide_eq_false (by omega)
                  have f1' : (x.state != 6) = true := by rw [bne, f1]; rfl
                  have f2 : (y.state == 6) = true := by rw [beq_dec]; exact decide_eq_true (by omega)
                  have f2' : (y.state != 6) = false := by rw [bne, f2]; rfl
                  have f3 : (x.state == 3) = false := by rw [beq_dec]; exact decide_eq_false (by omega)
                  have f3' : (x.state != 3) = true := by rw [bne, f3]; rfl
                  have f4 : (y.state == 3) = false := by rw [beq_dec]; exact decide_eq_false (by omega)
                  have f4' : (y.state != 3) = true := by rw [bne, f4]; rfl
                  have f5 : (ask == 2) = true := by rw [beq_dec]; exact decide_eq_true (by omega)
                  have f5' : (ask != 2) = false := by rw [bne, f5]; rfl
                  have hfin : y.state = 4 ∨ y.state = 5 ∨ y.state = 6 := by omega
                  have g1 : serves y = false := by unfold serves; rw [beq_dec]; exact decide_eq_false (by omega)
                  have g2 : comes y = false := by unfold comes; simp only [beq_dec, Bool.or_eq_false_iff, decide_eq_false_iff_not]; omega
                  have KV1 := KV.out
                  have KW1 := KW.out
                  rw [g1] at KV1
                  rw [g2] at KW1
                  have KV := Lib.hid KV1
                  have KW := Lib.hid KW1
                  clear KV1 KW1 g1 g2
                  have HHX := Lib.hid hx
                  clear hx h3 h4 hask h6
                  go_upto_region 17 with (first | (go_at_call 20; (with_reducible refine (KM.out _).mono ?_); rintro e w1 ⟨rfl, hb⟩; have HI := Lib.hid (blk_call hb HI.out); have HC := Lib.hid (blk_call hb HC.out); have HG := Lib.hid (blk_call hb HG.out); have HB := Lib.hid (below_step HB.out hb); obtain ⟨cx0, cx3, cx5, cx11, cy0, cy3, cy5, cy11⟩ := CL.out _ HI.out HG.out; clear hb) | (go_at_call 21; (with_reducible refine (KV.out _).mono ?_); rintro e w1 ⟨rfl, hb⟩; have HI := Lib.hid (blk_call hb HI.out); have HC := Lib.hid (blk_call hb HC.out); have HG := Lib.hid (blk_call hb HG.out); have HB := Lib.hid (below_step HB.out hb); obtain ⟨cx0, cx3, cx5, cx11, cy0, cy3, cy5, cy11⟩ := CL.out _ HI.out HG.out; clear hb) | (go_at_call 24; (with_reducible refine (KW.out _).mono ?_); rintro e w1 ⟨rfl, hb⟩; have HI := Lib.hid (blk_call hb HI.out); have HC := Lib.hid (blk_call hb HC.out); have HG := Lib.hid (blk_call hb HG.out); have HB := Lib.hid (below_step HB.out hb); obtain ⟨cx0, cx3, cx5, cx11, cy0, cy3, cy5, cy11⟩ := CL.out _ HI.out HG.out; clear hb) | ((with_reducible refine gate_storeT 34 rfl ?_); refine bx_row rfl 34 _ _ rfl _ rfl _ rfl 34 _ HI.out (by kernel_rfl) rfl (by simp [InV.cells, Value.oneCell']) HB.out (Nat.le_refl _) ?_; intro W3 hr hsz hk hb3; have HI := Lib.hid hr; have HC := Lib.hid ((hk _ HNE.out).trans HC.out); have HB := Lib.hid hb3; clear hr hsz hk hb3) | ((with_reducible refine gate_load 34 rfl ?_); refine wpList_load_row rfl 34 _ rfl _ rfl 34 _ _ _ (by first | exact HI.out | exact HG.out) Try.underlying34 rfl (by kernel_rfl) ?_))
                  all_goals try (exfalso; omega)
                  all_goals go_wp2_with (first | (go_at_call 20; (with_reducible refine (KM.out _).mono ?_); rintro e w1 ⟨rfl, hb⟩; have HI := Lib.hid (blk_call hb HI.out); have HC := Lib.hid (blk_call hb HC.out); have HG := Lib.hid (blk_call hb HG.out); have HB := Lib.hid (below_step HB.out hb); obtain ⟨cx0, cx3, cx5, cx11, cy0, cy3, cy5, cy11⟩ := CL.out _ HI.out HG.out; clear hb) | (go_at_call 21; (with_reducible refine (KV.out _).mono ?_); rintro e w1 ⟨rfl, hb⟩; have HI := Lib.hid (blk_call hb HI.out); have HC := Lib.hid (blk_call hb HC.out); have HG := Lib.hid (blk_call hb HG.out); have HB := Lib.hid (below_step HB.out hb); obtain ⟨cx0, cx3, cx5, cx11, cy0, cy3, cy5, cy11⟩ := CL.out _ HI.out HG.out; clear hb) | (go_at_call 24; (with_reducible refine (KW.out _).mono ?_); rintro e w1 ⟨rfl, hb⟩; have HI := Lib.hid (blk_call hb HI.out); have HC := Lib.hid (blk_call hb HC.out); have HG := Lib.hid (blk_call hb HG.out); have HB := Lib.hid (below_step HB.out hb); obtain ⟨cx0, cx3, cx5, cx11, cy0, cy3, cy5, cy11⟩ := CL.out _ HI.out HG.out; clear hb) | ((with_reducible refine gate_storeT 34 rfl ?_); refine bx_row rfl 34 _ _ rfl _ rfl _ rfl 34 _ HI.out (by kernel_rfl) rfl (by simp [InV.cells, Value.oneCell']) HB.out (Nat.le_refl _) ?_; intro W3 hr hsz hk hb3; have HI := Lib.hid hr; have HC := Lib.hid ((hk _ HNE.out).trans HC.out); have HB := Lib.hid hb3; clear hr hsz hk hb3) | ((with_reducible refine gate_load 34 rfl ?_); refine wpList_load_row rfl 34 _ rfl _ rfl 34 _ _ _ (by first | exact HI.out | exact HG.out) Try.underlying34 rfl (by kernel_rfl) ?_) | ((with_reducible refine gate_load 34 rfl ?_); refine load_row_g (by rfl) 34 _ rfl _ rfl 34 _ _ _ (by first | exact HI.out | exact HG.out) Try.underlying34 rfl (by kernel_rfl) ?_))
                  all_goals first
                    | (exfalso; omega)
                    | exact ⟨⟨k + 1, y, now + d.wait, true, by omega, by omega, by omega, by omega, rfl, rfl, by go_num, Lib.hid ⟨hmy, fun hl => hfin⟩, HI, HC, HB⟩, by simp only [intOf]; omega⟩
                    | trace_state
            · by_cases hy3 : y.state = 3
              · by_cases hs3 : x.state = 3
                · cases left
                  · clear hl2
                    have f1 : (x.state == 6) = false := by rw [beq_dec]; exact decide_eq_false (by omega)
                    have f1' : (x.state != 6) = true := by rw [bne, f1]; rfl
                    have f2 : (y.state == 6) = false := by rw [beq_dec]; exact decide_eq_false (by omega)
                    have f2' : (y.state != 6) = true := by rw [bne, f2]; rfl
                    have f3 : (x.state == 3) = true := by rw [beq_dec]; exact decide_eq_true (by omega)
                    have f3' : (x.state != 3) = false := by rw [bne, f3]; rfl
                    have f4 : (y.state == 3) = true := by rw [beq_dec]; exact decide_eq_true (by omega)
                    have f4' : (y.state != 3) = false := by rw [bne, f4]; rfl
                    have f5 : (ask == 2) = false := by rw [beq_dec]; exact decide_eq_false (by omega)
                    have f5' : (ask != 2) = true := by rw [bne, f5]; rfl
                    have HHX := Lib.hid hx
                    clear hx h3 h4 hask h6
                    go_upto_region 17 with (first | (go_at_call 20; (with_reducible refine (KM.out _).mono ?_); rintro e w1 ⟨rfl, hb⟩; have HI := Lib.hid (blk_call hb HI.out); have HC := Lib.hid (blk_call hb HC.out); have HG := Lib.hid (blk_call hb HG.out); have HB := Lib.hid (below_step HB.out hb); obtain ⟨cx0, cx3, cx5, cx11, cy0, cy3, cy5, cy11⟩ := CL.out _ HI.out HG.out; clear hb) | (go_at_call 21; (with_reducible refine (KV.out _).mono ?_); rintro e w1 ⟨rfl, hb⟩; have HI := Lib.hid (blk_call hb HI.out); have HC := Lib.hid (blk_call hb HC.out); have HG := Lib.hid (blk_call hb HG.out); have HB := Lib.hid (below_step HB.out hb); obtain ⟨cx0, cx3, cx5, cx11, cy0, cy3, cy5, cy11⟩ := CL.out _ HI.out HG.out; clear hb) | (go_at_call 24; (with_reducible refine (KW.out _).mono ?_); rintro e w1 ⟨rfl, hb⟩; have HI := Lib.hid (blk_call hb HI.out); have HC := Lib.hid (blk_call hb HC.out); have HG := Lib.hid (blk_call hb HG.out); have HB := Lib.hid (below_step HB.out hb); obtain ⟨cx0, cx3, cx5, cx11, cy0, cy3, cy5, cy11⟩ := CL.out _ HI.out HG.out; clear hb) | ((with_reducible refine gate_storeT 34 rfl ?_); refine bx_row rfl 34 _ _ rfl _ rfl _ rfl 34 _ HI.out (by kernel_rfl) rfl (by simp [InV.cells, Value.oneCell']) HB.out (Nat.le_refl _) ?_; intro W3 hr hsz hk hb3; have HI := Lib.hid hr; have HC := Lib.hid ((hk _ HNE.out).trans HC.out); have HB := Lib.hid hb3; clear hr hsz hk hb3) | ((with_reducible refine gate_load 34 rfl ?_); refine wpList_load_row rfl 34 _ rfl _ rfl 34 _ _ _ (by first | exact HI.out | exact HG.out) Try.underlying34 rfl (by kernel_rfl) ?_))
                    all_goals try (exfalso; omega)
                    all_goals go_upto_region 19 with fail
                    all_goals try (exfalso; omega)
                    all_goals go_wp2_with (first | ((with_reducible refine gate_storeT 34 rfl ?_); refine bx_row rfl 34 _ _ rfl _ rfl _ rfl 34 _ HI.out (by kernel_rfl) rfl (by simp [InV.cells, Value.oneCell']) HB.out (Nat.le_refl _) ?_; intro W3 hr hsz hk hb3; have HI := Lib.hid hr; have HC := Lib.hid ((hk _ HNE.out).trans HC.out); have HB := Lib.hid hb3; clear hr hsz hk hb3) | ((with_reducible refine gate_load 34 rfl ?_); refine wpList_load_row rfl 34 _ rfl _ rfl 34 _ _ _ (by first | exact HI.out | exact HG.out) Try.underlying34 rfl (by kernel_rfl) ?_))
                    all_goals first
                      | (exfalso; omega)
                      | exact ⟨⟨k + 1, y, now + d.wait, false, by omega, by omega, by omega, by omega, rfl, rfl, by go_num, Lib.hid ⟨hmy, fun hl => by cases hl⟩, HI, HC, HB⟩, by simp only [intOf]; omega⟩
                      | trace_state
                  · exfalso; have := hl2 rfl; omega
                · cases left
                  · clear hl2
                    have f1 : (x.state == 6) = false := by rw [beq_dec]; exact decide_eq_false (by omega)
                    have f1' : (x.state != 6) = true := by rw [bne, f1]; rfl
                    have f2 : (y.state == 6) = false := by rw [beq_dec]; exact decide_eq_false (by omega)
                    have f2' : (y.state != 6) = true := by rw [bne, f2]; rfl
                    have f3 : (x.state == 3) = false := by rw [beq_dec]; exact decide_eq_false (by omega)
                    have f3' : (x.state != 3) = true := by rw [bne, f3]; rfl
                    have f4 : (y.state == 3) = true := by rw [beq_dec]; exact decide_eq_true (by omega)
                    have f4' : (y.state != 3) = false := by rw [bne, f4]; rfl
                    have f5 : (ask == 2) = false := by rw [beq_dec]; exact decide_eq_false (by omega)
                    have f5' : (ask != 2) = true := by rw [bne, f5]; rfl
                    have HHX := Lib.hid hx
                    clear hx h3 h4 hask h6
                    go_upto_region 17 with (first | (go_at_call 20; (with_reducible refine (KM.out _).mono ?_); rintro e w1 ⟨rfl, hb⟩; have HI := Lib.hid (blk_call hb HI.out); have HC := Lib.hid (blk_call hb HC.out); have HG := Lib.hid (blk_call hb HG.out); have HB := Lib.hid (below_step HB.out hb); obtain ⟨cx0, cx3, cx5, cx11, cy0, cy3, cy5, cy11⟩ := CL.out _ HI.out HG.out; clear hb) | (go_at_call 21; (with_reducible refine (KV.out _).mono ?_); rintro e w1 ⟨rfl, hb⟩; have HI := Lib.hid (blk_call hb HI.out); have HC := Lib.hid (blk_call hb HC.out); have HG := Lib.hid (blk_call hb HG.out); have HB := Lib.hid (below_step HB.out hb); obtain ⟨cx0, cx3, cx5, cx11, cy0, cy3, cy5, cy11⟩ := CL.out _ HI.out HG.out; clear hb) | (go_at_call 24; (with_reducible refine (KW.out _).mono ?_); rintro e w1 ⟨rfl, hb⟩; have HI := Lib.hid (blk_call hb HI.out); have HC := Lib.hid (blk_call hb HC.out); have HG := Lib.hid (blk_call hb HG.out); have HB := Lib.hid (below_step HB.out hb); obtain ⟨cx0, cx3, cx5, cx11, cy0, cy3, cy5, cy11⟩ := CL.out _ HI.out HG.out; clear hb) | ((with_reducible refine gate_storeT 34 rfl ?_); refine bx_row rfl 34 _ _ rfl _ rfl _ rfl 34 _ HI.out (by kernel_rfl) rfl (by simp [InV.cells, Value.oneCell']) HB.out (Nat.le_refl _) ?_; intro W3 hr hsz hk hb3; have HI := Lib.hid hr; have HC := Lib.hid ((hk _ HNE.out).trans HC.out); have HB := Lib.hid hb3; clear hr hsz hk hb3) | ((with_reducible refine gate_load 34 rfl ?_); refine wpList_load_row rfl 34 _ rfl _ rfl 34 _ _ _ (by first | exact HI.out | exact HG.out) Try.underlying34 rfl (by kernel_rfl) ?_))
                    all_goals try (exfalso; omega)
                    all_goals go_upto_region 19 with fail
                    all_goals try (exfalso; omega)
                    all_goals go_wp2_with (first | ((with_reducible refine gate_storeT 34 rfl ?_); refine bx_row rfl 34 _ _ rfl _ rfl _ rfl 34 _ HI.out (by kernel_rfl) rfl (by simp [InV.cells, Value.oneCell']) HB.out (Nat.le_refl _) ?_; intro W3 hr hsz hk hb3; have HI := Lib.hid hr; have HC := Lib.hid ((hk _ HNE.out).trans HC.out); have HB := Lib.hid hb3; clear hr hsz hk hb3) | ((with_reducible refine gate_load 34 rfl ?_); refine wpList_load_row rfl 34 _ rfl _ rfl 34 _ _ _ (by first | exact HI.out | exact HG.out) Try.underlying34 rfl (by kernel_rfl) ?_))
                    all_goals first
                      | (exfalso; omega)
                      | exact ⟨⟨k + 1, y, now + d.wait, false, by omega, by omega, by omega, by omega, rfl, rfl, by go_num, Lib.hid ⟨hmy, fun hl => by cases hl⟩, HI, HC, HB⟩, by simp only [intOf]; omega⟩
                      | trace_state
                  · exfalso; have := hl2 rfl; omega
              · by_cases hs3 : x.state = 3
                · cases left
                  · clear hl2
                    have f1 : (x.state == 6) = false := by rw [beq_dec]; exact decide_eq_false (by omega)
                    have f1' : (x.state != 6) = true := by rw [bne, f1]; rfl
                    have f2 : (y.state == 6) = false := by rw [beq_dec]; exact decide_eq_false (by omega)
                    have f2' : (y.state != 6) = true := by rw [bne, f2]; rfl
                    have f3 : (x.state == 3) = true := by rw [beq_dec]; exact decide_eq_true (by omega)
                    have f3' : (x.state != 3) = false := by rw [bne, f3]; rfl
                    have f4 : (y.state == 3) = false := by rw [beq_dec]; exact decide_eq_false (by omega)
                    have f4' : (y.state != 3) = true := by rw [bne, f4]; rfl
                    have f5 : (ask == 2) = false := by rw [beq_dec]; exact decide_eq_false (by omega)
                    have f5' : (ask != 2) = true := by rw [bne, f5]; rfl
                    have hfin : y.state = 4 ∨ y.state = 5 ∨ y.state = 6 := by omega
                    have g1 : serves y = false := by unfold serves; rw [beq_dec]; exact decide_eq_false (by omega)
                    have g2 : comes y = false := by unfold comes; simp only [beq_dec, Bool.or_eq_false_iff, decide_eq_false_iff_not]; omega
                    have KV1 := KV.out
                    have KW1 := KW.out
                    rw [g1] at KV1
                    rw [g2] at KW1
                    have KV := Lib.hid KV1
                    have KW := Lib.hid KW1
                    clear KV1 KW1 g1 g2
                    have HHX := Lib.hid hx
                    clear hx h3 h4 hask h6
                    go_upto_region 17 with (first | (go_at_call 20; (with_reducible refine (KM.out _).mono ?_); rintro e w1 ⟨rfl, hb⟩; have HI := Lib.hid (blk_call hb HI.out); have HC := Lib.hid (blk_call hb HC.out); have HG := Lib.hid (blk_call hb HG.out); have HB := Lib.hid (below_step HB.out hb); obtain ⟨cx0, cx3, cx5, cx11, cy0, cy3, cy5, cy11⟩ := CL.out _ HI.out HG.out; clear hb) | (go_at_call 21; (with_reducible refine (KV.out _).mono ?_); rintro e w1 ⟨rfl, hb⟩; have HI := Lib.hid (blk_call hb HI.out); have HC := Lib.hid (blk_call hb HC.out); have HG := Lib.hid (blk_call hb HG.out); have HB := Lib.hid (below_step HB.out hb); obtain ⟨cx0, cx3, cx5, cx11, cy0, cy3, cy5, cy11⟩ := CL.out _ HI.out HG.out; clear hb) | (go_at_call 24; (with_reducible refine (KW.out _).mono ?_); rintro e w1 ⟨rfl, hb⟩; have HI := Lib.hid (blk_call hb HI.out); have HC := Lib.hid (blk_call hb HC.out); have HG := Lib.hid (blk_call hb HG.out); have HB := Lib.hid (below_step HB.out hb); obtain ⟨cx0, cx3, cx5, cx11, cy0, cy3, cy5, cy11⟩ := CL.out _ HI.out HG.out; clear hb) | ((with_reducible refine gate_storeT 34 rfl ?_); refine bx_row rfl 34 _ _ rfl _ rfl _ rfl 34 _ HI.out (by kernel_rfl) rfl (by simp [InV.cells, Value.oneCell']) HB.out (Nat.le_refl _) ?_; intro W3 hr hsz hk hb3; have HI := Lib.hid hr; have HC := Lib.hid ((hk _ HNE.out).trans HC.out); have HB := Lib.hid hb3; clear hr hsz hk hb3) | ((with_reducible refine gate_load 34 rfl ?_); refine wpList_load_row rfl 34 _ rfl _ rfl 34 _ _ _ (by first | exact HI.out | exact HG.out) Try.underlying34 rfl (by kernel_rfl) ?_))
                    all_goals try (exfalso; omega)
                    all_goals go_wp2_with (first | (go_at_call 20; (with_reducible refine (KM.out _).mono ?_); rintro e w1 ⟨rfl, hb⟩; have HI := Lib.hid (blk_call hb HI.out); have HC := Lib.hid (blk_call hb HC.out); have HG := Lib.hid (blk_call hb HG.out); have HB := Lib.hid (below_step HB.out hb); obtain ⟨cx0, cx3, cx5, cx11, cy0, cy3, cy5, cy11⟩ := CL.out _ HI.out HG.out; clear hb) | (go_at_call 21; (with_reducible refine (KV.out _).mono ?_); rintro e w1 ⟨rfl, hb⟩; have HI := Lib.hid (blk_call hb HI.out); have HC := Lib.hid (blk_call hb HC.out); have HG := Lib.hid (blk_call hb HG.out); have HB := Lib.hid (below_step HB.out hb); obtain ⟨cx0, cx3, cx5, cx11, cy0, cy3, cy5, cy11⟩ := CL.out _ HI.out HG.out; clear hb) | (go_at_call 24; (with_reducible refine (KW.out _).mono ?_); rintro e w1 ⟨rfl, hb⟩; have HI := Lib.hid (blk_call hb HI.out); have HC := Lib.hid (blk_call hb HC.out); have HG := Lib.hid (blk_call hb HG.out); have HB := Lib.hid (below_step HB.out hb); obtain ⟨cx0, cx3, cx5, cx11, cy0, cy3, cy5, cy11⟩ := CL.out _ HI.out HG.out; clear hb) | ((with_reducible refine gate_storeT 34 rfl ?_); refine bx_row rfl 34 _ _ rfl _ rfl _ rfl 34 _ HI.out (by kernel_rfl) rfl (by simp [InV.cells, Value.oneCell']) HB.out (Nat.le_refl _) ?_; intro W3 hr hsz hk hb3; have HI := Lib.hid hr; have HC := Lib.hid ((hk _ HNE.out).trans HC.out); have HB := Lib.hid hb3; clear hr hsz hk hb3) | ((with_reducible refine gate_load 34 rfl ?_); refine wpList_load_row rfl 34 _ rfl _ rfl 34 _ _ _ (by first | exact HI.out | exact HG.out) Try.underlying34 rfl (by kernel_rfl) ?_) | ((with_reducible refine gate_load 34 rfl ?_); refine load_row_g (by rfl) 34 _ rfl _ rfl 34 _ _ _ (by first | exact HI.out | exact HG.out) Try.underlying34 rfl (by kernel_rfl) ?_))
                    all_goals first
                      | (exfalso; omega)
                      | exact ⟨⟨k + 1, y, now + d.wait, true, by omega, by omega, by omega, by omega, rfl, rfl, by go_num, Lib.hid ⟨hmy, fun hl => hfin⟩, HI, HC, HB⟩, by simp only [intOf]; omega⟩
                      | trace_state
                  · exfalso; have := hl2 rfl; omega
                · cases left
                  · clear hl2
                    have f1 : (x.state == 6) = false := by rw [beq_dec]; exact decide_eq_false (by omega)
                    have f1' : (x.state != 6) = true := by rw [bne, f1]; rfl
                    have f2 : (y.state == 6) = false := by rw [beq_dec]; exact decide_eq_false (by omega)
                    have f2' : (y.state != 6) = true := by rw [bne, f2]; rfl
                    have f3 : (x.state == 3) = false := by rw [beq_dec]; exact decide_eq_false (by omega)
                    have f3' : (x.state != 3) = true := by rw [bne, f3]; rfl
                    have f4 : (y.state == 3) = false := by rw [beq_dec]; exact decide_eq_false (by omega)
                    have f4' : (y.state != 3) = true := by rw [bne, f4]; rfl
                    have f5 : (ask == 2) = false := by rw [beq_dec]; exact decide_eq_false (by omega)
                    have f5' : (ask != 2) = true := by rw [bne, f5]; rfl
                    have HHX := Lib.hid hx
                    clear hx h3 h4 hask h6
                    go_upto_region 17 with (first | (go_at_call 20; (with_reducible refine (KM.out _).mono ?_); rintro e w1 ⟨rfl, hb⟩; have HI := Lib.hid (blk_call hb HI.out); have HC := Lib.hid (blk_call hb HC.out); have HG := Lib.hid (blk_call hb HG.out); have HB := Lib.hid (below_step HB.out hb); obtain ⟨cx0, cx3, cx5, cx11, cy0, cy3, cy5, cy11⟩ := CL.out _ HI.out HG.out; clear hb) | (go_at_call 21; (with_reducible refine (KV.out _).mono ?_); rintro e w1 ⟨rfl, hb⟩; have HI := Lib.hid (blk_call hb HI.out); have HC := Lib.hid (blk_call hb HC.out); have HG := Lib.hid (blk_call hb HG.out); have HB := Lib.hid (below_step HB.out hb); obtain ⟨cx0, cx3, cx5, cx11, cy0, cy3, cy5, cy11⟩ := CL.out _ HI.out HG.out; clear hb) | (go_at_call 24; (with_reducible refine (KW.out _).mono ?_); rintro e w1 ⟨rfl, hb⟩; have HI := Lib.hid (blk_call hb HI.out); have HC := Lib.hid (blk_call hb HC.out); have HG := Lib.hid (blk_call hb HG.out); have HB := Lib.hid (below_step HB.out hb); obtain ⟨cx0, cx3, cx5, cx11, cy0, cy3, cy5, cy11⟩ := CL.out _ HI.out HG.out; clear hb) | ((with_reducible refine gate_storeT 34 rfl ?_); refine bx_row rfl 34 _ _ rfl _ rfl _ rfl 34 _ HI.out (by kernel_rfl) rfl (by simp [InV.cells, Value.oneCell']) HB.out (Nat.le_refl _) ?_; intro W3 hr hsz hk hb3; have HI := Lib.hid hr; have HC := Lib.hid ((hk _ HNE.out).trans HC.out); have HB := Lib.hid hb3; clear hr hsz hk hb3) | ((with_reducible refine gate_load 34 rfl ?_); refine wpList_load_row rfl 34 _ rfl _ rfl 34 _ _ _ (by first | exact HI.out | exact HG.out) Try.underlying34 rfl (by kernel_rfl) ?_))
                    all_goals try (exfalso; omega)
                    all_goals go_upto_region 19 with fail
                    all_goals try (exfalso; omega)
                    all_goals go_wp2_with (first | ((with_reducible refine gate_storeT 34 rfl ?_); refine bx_row rfl 34 _ _ rfl _ rfl _ rfl 34 _ HI.out (by kernel_rfl) rfl (by simp [InV.cells, Value.oneCell']) HB.out (Nat.le_refl _) ?_; intro W3 hr hsz hk hb3; have HI := Lib.hid hr; have HC := Lib.hid ((hk _ HNE.out).trans HC.out); have HB := Lib.hid hb3; clear hr hsz hk hb3) | ((with_reducible refine gate_load 34 rfl ?_); refine wpList_load_row rfl 34 _ rfl _ rfl 34 _ _ _ (by first | exact HI.out | exact HG.out) Try.underlying34 rfl (by kernel_rfl) ?_))
                    all_goals first
                      | (exfalso; omega)
                      | exact ⟨⟨k + 1, y, now + d.wait, false, by omega, by omega, by omega, by omega, rfl, rfl, by go_num, Lib.hid ⟨hmy, fun hl => by cases hl⟩, HI, HC, HB⟩, by simp only [intOf]; omega⟩
                      | trace_state
                  · have hl3 := hl2 rfl
                    clear hl2
                    have f1 : (x.state == 6) = false := by rw [beq_dec]; exact decide_eq_false (by omega)
                    have f1' : (x.state != 6) = true := by rw [bne, f1]; rfl
                    have f2 : (y.state == 6) = false := by rw [beq_dec]; exact decide_eq_false (by omega)
                    have f2' : (y.state != 6) = true := by rw [bne, f2]; rfl
                    have f3 : (x.state == 3) = false := by rw [beq_dec]; exact decide_eq_false (by omega)
                    have f3' : (x.state != 3) = true := by rw [bne, f3]; rfl
                    have f4 : (y.state == 3) = false := by rw [beq_dec]; exact decide_eq_false (by omega)
                    have f4' : (y.state != 3) = true := by rw [bne, f4]; rfl
                    have f5 : (ask == 2) = false := by rw [beq_dec]; exact decide_eq_false (by omega)
                    have f5' : (ask != 2) = true := by rw [bne, f5]; rfl
                    have hfin : y.state = 4 ∨ y.state = 5 ∨ y.state = 6 := by omega
                    have g1 : serves y = false := by unfold serves; rw [beq_dec]; exact decide_eq_false (by omega)
                    have g2 : comes y = false := by unfold comes; simp only [beq_dec, Bool.or_eq_false_iff, decide_eq_false_iff_not]; omega
                    have KV1 := KV.out
                    have KW1 := KW.out
                    rw [g1] at KV1
                    rw [g2] at KW1
                    have KV := Lib.hid KV1
                    have KW := Lib.hid KW1
                    clear KV1 KW1 g1 g2
                    have HHX := Lib.hid hx
                    clear hx h3 h4 hask h6
                    go_upto_region 17 with (first | (go_at_call 20; (with_reducible refine (KM.out _).mono ?_); rintro e w1 ⟨rfl, hb⟩; have HI := Lib.hid (blk_call hb HI.out); have HC := Lib.hid (blk_call hb HC.out); have HG := Lib.hid (blk_call hb HG.out); have HB := Lib.hid (below_step HB.out hb); obtain ⟨cx0, cx3, cx5, cx11, cy0, cy3, cy5, cy11⟩ := CL.out _ HI.out HG.out; clear hb) | (go_at_call 21; (with_reducible refine (KV.out _).mono ?_); rintro e w1 ⟨rfl, hb⟩; have HI := Lib.hid (blk_call hb HI.out); have HC := Lib.hid (blk_call hb HC.out); have HG := Lib.hid (blk_call hb HG.out); have HB := Lib.hid (below_step HB.out hb); obtain ⟨cx0, cx3, cx5, cx11, cy0, cy3, cy5, cy11⟩ := CL.out _ HI.out HG.out; clear hb) | (go_at_call 24; (with_reducible refine (KW.out _).mono ?_); rintro e w1 ⟨rfl, hb⟩; have HI := Lib.hid (blk_call hb HI.out); have HC := Lib.hid (blk_call hb HC.out); have HG := Lib.hid (blk_call hb HG.out); have HB := Lib.hid (below_step HB.out hb); obtain ⟨cx0, cx3, cx5, cx11, cy0, cy3, cy5, cy11⟩ := CL.out _ HI.out HG.out; clear hb) | ((with_reducible refine gate_storeT 34 rfl ?_); refine bx_row rfl 34 _ _ rfl _ rfl _ rfl 34 _ HI.out (by kernel_rfl) rfl (by simp [InV.cells, Value.oneCell']) HB.out (Nat.le_refl _) ?_; intro W3 hr hsz hk hb3; have HI := Lib.hid hr; have HC := Lib.hid ((hk _ HNE.out).trans HC.out); have HB := Lib.hid hb3; clear hr hsz hk hb3) | ((with_reducible refine gate_load 34 rfl ?_); refine wpList_load_row rfl 34 _ rfl _ rfl 34 _ _ _ (by first | exact HI.out | exact HG.out) Try.underlying34 rfl (by kernel_rfl) ?_))
                    all_goals try (exfalso; omega)
                    all_goals go_wp2_with (first | (go_at_call 20; (with_reducible refine (KM.out _).mono ?_); rintro e w1 ⟨rfl, hb⟩; have HI := Lib.hid (blk_call hb HI.out); have HC := Lib.hid (blk_call hb HC.out); have HG := Lib.hid (blk_call hb HG.out); have HB := Lib.hid (below_step HB.out hb); obtain ⟨cx0, cx3, cx5, cx11, cy0, cy3, cy5, cy11⟩ := CL.out _ HI.out HG.out; clear hb) | (go_at_call 21; (with_reducible refine (KV.out _).mono ?_); rintro e w1 ⟨rfl, hb⟩; have HI := Lib.hid (blk_call hb HI.out); have HC := Lib.hid (blk_call hb HC.out); have HG := Lib.hid (blk_call hb HG.out); have HB := Lib.hid (below_step HB.out hb); obtain ⟨cx0, cx3, cx5, cx11, cy0, cy3, cy5, cy11⟩ := CL.out _ HI.out HG.out; clear hb) | (go_at_call 24; (with_reducible refine (KW.out _).mono ?_); rintro e w1 ⟨rfl, hb⟩; have HI := Lib.hid (blk_call hb HI.out); have HC := Lib.hid (blk_call hb HC.out); have HG := Lib.hid (blk_call hb HG.out); have HB := Lib.hid (below_step HB.out hb); obtain ⟨cx0, cx3, cx5, cx11, cy0, cy3, cy5, cy11⟩ := CL.out _ HI.out HG.out; clear hb) | ((with_reducible refine gate_storeT 34 rfl ?_); refine bx_row rfl 34 _ _ rfl _ rfl _ rfl 34 _ HI.out (by kernel_rfl) rfl (by simp [InV.cells, Value.oneCell']) HB.out (Nat.le_refl _) ?_; intro W3 hr hsz hk hb3; have HI := Lib.hid hr; have HC := Lib.hid ((hk _ HNE.out).trans HC.out); have HB := Lib.hid hb3; clear hr hsz hk hb3) | ((with_reducible refine gate_load 34 rfl ?_); refine wpList_load_row rfl 34 _ rfl _ rfl 34 _ _ _ (by first | exact HI.out | exact HG.out) Try.underlying34 rfl (by kernel_rfl) ?_) | ((with_reducible refine gate_load 34 rfl ?_); refine load_row_g (by rfl) 34 _ rfl _ rfl 34 _ _ _ (by first | exact HI.out | exact HG.out) Try.underlying34 rfl (by kernel_rfl) ?_))
                    all_goals first
                      | (exfalso; omega)
                      | exact ⟨⟨k + 1, y, now + d.wait, true, by omega, by omega, by omega, by omega, rfl, rfl, by go_num, Lib.hid ⟨hmy, fun hl => hfin⟩, HI, HC, HB⟩, by simp only [intOf]; omega⟩
                      | trace_state
      · have : k = 100 := by omega
        subst this
        go_wp2_with (first | (go_at_call 22; (with_reducible refine (KL.out _).mono ?_); rintro e w1 ⟨rfl, hb⟩; have HB := Lib.hid (below_step HB.out hb); clear hb))
        all_goals first
          | (exfalso; omega)
          | (go_ret; exact ⟨rfl, HB.out⟩)
    · have : k = n := by omega
      subst this
      go_wp2_with (first | (go_at_call 22; (with_reducible refine (KL.out _).mono ?_); rintro e w1 ⟨rfl, hb⟩; have HB := Lib.hid (below_step HB.out hb); clear hb))
      all_goals first
        | (exfalso; omega)
        | (go_ret; exact ⟨rfl, HB.out⟩)
end Go.Proofs.Ytaoflcmjmhfblaa.I
