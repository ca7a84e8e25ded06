/- conf.Bytes. -/
import Derived.Test.YtgiokbhedblkfaaCfBy0
namespace Go.Proofs.Ytgiokbhedblkfaa.C
open Go.RowKit Go.Proofs.YtgiokbhedblkfaaW.PrintWords Go.Proofs.YtgiokbhedblkfaaW.PrintLast Go.Proofs.YtgiokbhedblkfaaW.PrintMore Go.Proofs.Ytgiokbhedblkfaa.H
set_option linter.unusedVariables false
set_option linter.unusedSimpArgs false
set_option maxHeartbeats 16000000 in
set_option maxRecDepth 100000 in
theorem bytes_calls (x : S27) (A0 A18 A19 : Option Addr) (c0 c18 c19 : Nat) (w : World) (h0 : Kd.C k37 w A0 x.f0.length x.f0) (h18 : Kd.C k39 w A18 x.f18.length x.f18) (h19 : Kd.C k41 w A19 x.f19.length x.f19) :
    Calls Try.prog 15 #[cfgV x (.slice A0 x.f0.length c0) (.slice A18 x.f18.length c18) (.slice A19 x.f19.length c19)] w fun e w' => ∃ v0, e = .returned (.tuple #[v0, .int .i64 (checkC x)]) ∧ Kd.R (Kd.int .u8) 5 w' w.heap.size (fun _ => True) v0 (if checkC x = 0 then bytesC x else []) ∧ Below w.heap.size w w' := by
  have K1 := Lib.hid (fun W (hb : Below w.heap.size w W) => check_calls x A0 A18 A19 c0 c18 c19 W (Kd.C_below h0 hb) (Kd.C_below h18 hb) (Kd.C_below h19 hb))
  have hv : cfgV x (.slice A0 x.f0.length c0) (.slice A18 x.f18.length c18) (.slice A19 x.f19.length c19) = .agg (cfgC x (.slice A0 x.f0.length c0) (.slice A18 x.f18.length c18) (.slice A19 x.f19.length c19)) := rfl
  rw [hv]
  clear hv
  simp only [cfgV] at K1
  obtain ⟨r, hr⟩ : ∃ r, checkC x = r := ⟨_, rfl⟩
  rw [hr] at K1 ⊢
  obtain ⟨RB, hRB⟩ : ∃ RB, (if r = 0 then bytesC x else []) = RB := ⟨_, rfl⟩
  rw [hRB]
  have HRB := Lib.hid hRB
  clear hRB
  have hg1 := heap_alloc_new w (.cells (cfgC x (.slice A0 x.f0.length c0) (.slice A18 x.f18.length c18) (.slice A19 x.f19.length c19)) 27 (0, 0))
  have HG1 := Lib.hid hg1
  have HB1 := Lib.hid ((Below.refl w.heap.size w).alloc (Nat.le_refl _) (.cells (cfgC x (.slice A0 x.f0.length c0) (.slice A18 x.f18.length c18) (.slice A19 x.f19.length c19)) 27 (0, 0)))
  have HR := Lib.hid hr
  clear hg1 hr
  have KC := Lib.hid (fun W (hb : Below w.heap.size w W) (l0 : x.f0.length ≤ 64) (l18 : x.f18.length ≤ 8) (l19 : x.f19.length ≤ 16) => copy_calls x A0 A18 A19 c0 c18 c19 W (Kd.C_below h0 hb) (Kd.C_below h18 hb) (Kd.C_below h19 hb) (by omega) (by omega) (by omega))
  simp only [cfgV] at KC
  clear h0 h18 h19
  go_enter Try.func15, Try.ntmps15
  go_upto_region 1 with (fail)
  generalize (w.alloc (.cells (cfgC x (.slice A0 x.f0.length c0) (.slice A18 x.f18.length c18) (.slice A19 x.f19.length c19)) 27 (0, 0))) = wx at HB1 HG1 ⊢
  obtain ⟨gb, hgb⟩ : ∃ gb, w.heap.size = gb := ⟨_, rfl⟩
  rw [hgb] at HG1 ⊢
  have HGB := Lib.hid hgb
  clear hgb
  by_cases hr0 : r = 0
  rotate_left 1
  · have hz : (r == 0) = false := by rw [beq_eq_false_iff_ne]; exact hr0
    have hRB0 : RB = [] := by rw [← HRB.out, if_neg hr0]
    subst hRB0
    go_wp2_with (first
      | ((with_reducible refine gate_load 27 rfl ?_); refine wpList_load_row rfl 27 _ rfl _ rfl 27 _ _ _ HG1.out Try.underlying27 rfl (by kernel_rfl) ?_)
      | (go_at_call 14; refine (K1.out _ HB1.out).mono ?_; rintro e w1 ⟨rfl, hb1⟩; have HBy := Lib.hid (below_step HB1.out hb1); clear hb1))
    go_ret2
    exact ⟨_, rfl, Kd.R_nil _ _ _ _ _, HBy.out⟩
  · subst hr0
    have HZ := Lib.hid (check_zero HR.out)
    have hBs : bytesC x = RB := by have h := HRB.out; rwa [if_pos rfl] at h
    clear HRB
    go_upto_region 4 with (first
      | ((with_reducible refine gate_load 27 rfl ?_); refine wpList_load_row rfl 27 _ rfl _ rfl 27 _ _ _ HG1.out Try.underlying27 rfl (by kernel_rfl) ?_)
      | (go_at_call 14; refine (K1.out _ HB1.out).mono ?_; rintro e w1 ⟨rfl, hb1⟩; have HBy := Lib.hid (below_step HB1.out hb1); have HGy := Lib.hid (blk_call hb1 HG1.out); clear hb1))
    go_upto_region 5 with (first
      | ((with_reducible refine gate_load 27 rfl ?_); refine wpList_load_row rfl 27 _ rfl _ rfl 27 _ _ _ HGy.out Try.underlying27 rfl (by kernel_rfl) ?_)
      | (go_at_call 13; refine (KC.out _ HBy.out HZ.out.1 HZ.out.2.1 HZ.out.2.2.1).mono ?_; rintro e w2 ⟨v0, v18, v19, rfl, hr0, hr18, hr19, hb⟩; obtain ⟨P0, q0, hu0⟩ := Kd.R_slice hr0; obtain ⟨P18, q18, hu18⟩ := Kd.R_slice hr18; obtain ⟨P19, q19, hu19⟩ := Kd.R_slice hr19; subst hu0; subst hu18; subst hu19; have HG2 := Lib.hid (blk_call hb HGy.out); have HB2 := Lib.hid (below_step HBy.out hb); have HR0 := Lib.hid hr0; have HR18 := Lib.hid hr18; have HR19 := Lib.hid hr19; clear hr0 hr18 hr19 hb)
      | ((with_reducible refine gate_storeT 27 rfl ?_); refine wpList_store_row rfl 27 _ _ rfl _ _ rfl rfl 27 _ HG2.out (by kernel_rfl) rfl (cfg_one x _ _ _ rfl rfl rfl) ?_))
    have HG3 := Lib.hid (setRow_heap w2 gb _ (cfgC x (.slice P0 x.f0.length q0) (.slice P18 x.f18.length q18) (.slice P19 x.f19.length q19)) 27 (0, 0) HG2.out)
    have HB3 := Lib.hid (below_setRow HB2.out (Nat.le_of_eq HGB.out) (cfgC x (.slice P0 x.f0.length q0) (.slice P18 x.f18.length q18) (.slice P19 x.f19.length q19)))
    have HC0 := Lib.hid (Kd.R_reads' (R_setRow (cs := cfgC x (.slice P0 x.f0.length q0) (.slice P18 x.f18.length q18) (.slice P19 x.f19.length q19)) HR0.out HG2.out (by decide))).2.2
    have HC18 := Lib.hid (Kd.R_reads' (R_setRow (cs := cfgC x (.slice P0 x.f0.length q0) (.slice P18 x.f18.length q18) (.slice P19 x.f19.length q19)) HR18.out HG2.out (by decide))).2.2
    have HC19 := Lib.hid (Kd.R_reads' (R_setRow (cs := cfgC x (.slice P0 x.f0.length q0) (.slice P18 x.f18.length q18) (.slice P19 x.f19.length q19)) HR19.out HG2.out (by decide))).2.2
    clear HR0 HR18 HR19 HG2 HB2 HG1 HB1 KC HBy HGy K1
    generalize (w2.setRow gb (cfgC x (.slice P0 x.f0.length q0) (.slice P18 x.f18.length q18) (.slice P19 x.f19.length q19))) = w3 at HG3 HB3 HC0 HC18 HC19 ⊢
    rw [put_no_]
    obtain ⟨n0, hn0⟩ : ∃ n, x.f0.length = n := ⟨_, rfl⟩
    obtain ⟨n18, hn18⟩ : ∃ n, x.f18.length = n := ⟨_, rfl⟩
    obtain ⟨n19, hn19⟩ : ∃ n, x.f19.length = n := ⟨_, rfl⟩
    have HBC := Lib.hid (show bytesC x = (((([IntKind.u8.wrap (n0 : Int)] ++ x.f0.flatMap poolB) ++ ownB x) ++ [IntKind.u8.wrap (n18 : Int)]) ++ x.f18.flatMap bandB) ++ [IntKind.u8.wrap (n19 : Int)] ++ x.f19.flatMap planB by rw [← hn0, ← hn18, ← hn19]; rfl)
    rw [hn0] at HG3 HC0
    rw [hn18] at HG3 HC18
    rw [hn19] at HG3 HC19
    rw [hn0, hn18, hn19] at HZ
    try rw [hn0]
    try rw [hn18]
    try rw [hn19]
    have HN := Lib.hid (And.intro hn0 (And.intro hn18 hn19))
    clear hn0 hn18 hn19
    rw [hBs] at HBC
    clear hBs
    have hc0 := blk_cellk (v := .slice P0 n0 q0) HG3.out 0 rfl
    have HGL := Lib.hid (blk_lt HG3.out)
    obtain ⟨qa, hqa⟩ : ∃ q, IntKind.u8.wrap (n0 : Int) = q := ⟨_, rfl⟩
    rw [hqa] at HBC
    go_upto_region 6 with (fail)
    clear hqa hc0
    have HO4 := Lib.hid (R_one w3 w3.heap.size (Nat.le_refl _) qa)
    have HB4 := Lib.hid ((Below.refl w3.heap.size w3).alloc (Nat.le_refl _) (.cells #[.int .u8 qa] 5 (0, 0)))
    generalize (w3.alloc (.cells #[.int .u8 qa] 5 (0, 0))) = w4 at HO4 HB4 ⊢
    obtain ⟨v4, hv4⟩ : ∃ v : Value, .slice (some ⟨w3.heap.size, 0, none⟩) 1 1 = v := ⟨_, rfl⟩
    rw [hv4] at HO4 ⊢
    clear hv4
    have hc0 := blk_cellk (v := .slice P0 n0 q0) (blk_call HB4.out HG3.out) 0 rfl
    go_wp2_with (fail)
    clear hc0
    go_loopg [5, 25] n0 (fun gg v5 v25 wr => ∃ (i : Nat), i ≤ n0 ∧ n0 - i ≤ gg ∧ v25 = .int .i64 i ∧ Hid (Kd.R (Kd.int .u8) 5 wr w3.heap.size (fun _ => True) v5 ([qa] ++ (x.f0.take i).flatMap poolB)) ∧ Hid (Below w3.heap.size w3 wr))
    case atStart => exact ⟨0, Nat.zero_le _, by omega, rfl, by simpa using HO4, HB4⟩
    case round =>
      clear HO4 HB4
      obtain ⟨i, hi, hgg, rfl, HO, HB⟩ := hrel
      by_cases hlt : i < n0
      · have hltz : (i : Int) < (n0 : Int) := by omega
        have w1e : IntKind.i64.wrap ((i : Int) + 1) = (i : Int) + 1 := by rw [IntKind.wrap_i64]; have := HZ.out.1; omega
        obtain ⟨ad, ea, hcc⟩ := kPool_C HC0.out i hlt
        subst ea
        have hyi : x.f0[i]? = some (x.f0.getD i z37) := by rw [List.getD_eq_getElem?_getD, List.getElem?_eq_getElem (by rw [HN.out.1]; exact hlt)]; rfl
        obtain ⟨y, hy⟩ : ∃ y, x.f0.getD i z37 = y := ⟨_, rfl⟩
        rw [hy] at hcc hyi
        have HTK := Lib.hid (show [qa] ++ (x.f0.take (i + 1)).flatMap poolB = ([qa] ++ (x.f0.take i).flatMap poolB) ++ poolB y by rw [List.take_add_one, hyi, List.flatMap_append, List.append_assoc]; simp)
        have hall : ∀ z ∈ x.f0, z.f0.size ≤ 24 := fun z hz => poolOk_size (List.all_eq_true.1 HZ.out.2.2.2 z hz)
        have HSZ := Lib.hid (hall y (List.mem_of_getElem? hyi))
        obtain ⟨Y, hY⟩ : ∃ Y, [qa] ++ (x.f0.take i).flatMap poolB = Y := ⟨_, rfl⟩
        have HYL := Lib.hid (show Y.length + 100 ≤ 140737488355328 by
          have h1 := flat_le poolB 49 (x.f0.take i) (fun z hz => poolB_len z (hall z (List.mem_of_mem_take hz)))
          rw [List.length_take] at h1
          have h2 := HZ.out.1
          rw [← hY, List.length_append, List.length_singleton]
          omega)
        rw [hY] at HO HTK
        have HCC := Lib.hid hcc
        have HCS := Lib.hid (fun W (hW : Below w3.heap.size w3 W) => show W.cell? (ad.add (i * 4)) = some (.string y.f0) by
          have h := cap_keep (hcc 0 _ rfl) hW
          rwa [addr_add0] at h)
        have HPC := Lib.hid (fun W (hW : Below w3.heap.size w3 W) => poolF_in (y := y) (fun j v hv => cap_keep (HCC.out j v hv) hW))
        have HPB := Lib.hid (show ∀ f ∈ poolF (ad.add (i * 4)) y, f.p.block < w3.heap.size by
          intro f hf
          have h1 := World.block_lt_of_cell? w3 _ (hcc 0 _ rfl)
          simp only [poolF, poolC, List.mem_cons, List.not_mem_nil, or_false] at hf
          rw [add_block] at h1
          rcases hf with rfl | rfl | rfl <;> (show (Addr.add _ _).block < _; rw [add_block]; first | exact h1 | (rw [add_block] at h1; exact h1)))
        have hc0 := blk_cellk (v := .slice (some ad) n0 q0) (blk_call HB.out HG3.out) 0 rfl
        clear hy hcc hyi hall hY
        go_upto_region 10 with (fail)
        clear hc0
        have HBa := Lib.hid (below_step HB.out (below_drew (Below.refl _ _)))
        have HOa := Lib.hid (Kd.R_drew HO.out)
        obtain ⟨q, hq⟩ : ∃ q, IntKind.u8.wrap (y.f0.size : Int) = q := ⟨_, rfl⟩
        have HQ := Lib.hid hq
        go_cut [5] (fun v5 wy => Hid (Kd.R (Kd.int .u8) 5 wy w3.heap.size (fun _ => True) v5 ((Y ++ [q]) ++ bytesOf y.f0)) ∧ Hid (Below w3.heap.size w3 wy))
        case first =>
          refine start_ (n := 15) (S := fun w' => w'.cell? (ad.add (i * 4)) = some (.string y.f0)) (ds := []) #[false, false, false, false, false, false, false, false, false, false, false, false, false, false, false] (by kernel_rfl) rfl rfl (HCS.out _ HBa.out) (fun hHeld => ?_)
          generalize wr.drew = Wa at HBa HOa hHeld ⊢
          refine pure_ (i := 0) (N := some 32) (v := ?_) (a' := ?_) #[true, false, false, false, false, false, false, false, false, false, false, false, false, false, false] rfl rfl (by kernel_rfl) (fun _ _ _ h => h) (Or.inl ⟨by rfl, ?_⟩) ?_ ?_
          rotate_left
          · intro w'
            go_simp
            with_reducible rfl
          rotate_left
          · simp only [Act.put, List.setIfInBounds_toArray, List.set_cons_zero, List.set_cons_succ, i64_w, i32_w]
            rfl
          refine pure_ (i := 1) (N := some 33) (v := ?_) (a' := ?_) #[true, true, false, false, false, false, false, false, false, false, false, false, false, false, false] rfl rfl (by kernel_rfl) (fun _ _ _ h => h) (Or.inl ⟨by rfl, ?_⟩) ?_ ?_
          rotate_left
          · intro w'
            go_simp
            with_reducible rfl
          rotate_left
          · simp only [Act.put, List.setIfInBounds_toArray, List.set_cons_zero, List.set_cons_succ, i64_w, i32_w]
            rfl
          refine pure_ (i := 2) (N := some 34) (v := ?_) (a' := ?_) #[true, true, true, false, false, false, false, false, false, false, false, false, false, false, false] rfl rfl (by kernel_rfl) (fun _ _ _ h => h) (Or.inl ⟨by rfl, ?_⟩) ?_ ?_
          rotate_left
          · intro w'
            go_simp
            with_reducible rfl
          rotate_left
          · simp only [Act.put, List.setIfInBounds_toArray, List.set_cons_zero, List.set_cons_succ, i64_w, i32_w]
            rfl
          refine pure_ (i := 3) (N := some 35) (v := ?_) (a' := ?_) #[true, true, true, true, false, false, false, false, false, false, false, false, false, false, false] rfl rfl (by kernel_rfl) (fun _ _ _ h => h) (Or.inl ⟨by rfl, ?_⟩) ?_ ?_
          rotate_left
          · intro w'
            go_simp
            with_reducible rfl
          rotate_left
          · simp only [Act.put, List.setIfInBounds_toArray, List.set_cons_zero, List.set_cons_succ, i64_w, i32_w]
            rfl
          refine pure_ (i := 9) (N := some 41) (v := ?_) (a' := ?_) #[true, true, true, true, false, false, false, false, false, true, false, false, false, false, false] rfl rfl (by kernel_rfl) (fun _ _ _ h => h) (Or.inl ⟨by rfl, ?_⟩) ?_ ?_
          rotate_left
          · intro w'
            go_simp
            with_reducible rfl
          rotate_left
          · simp only [Act.put, List.setIfInBounds_toArray, List.set_cons_zero, List.set_cons_succ, i64_w, i32_w]
            rfl
          refine pure_ (i := 10) (N := some 42) (v := ?_) (a' := ?_) #[true, true, true, true, false, false, false, false, false, true, true, false, false, false, false] rfl rfl (by kernel_rfl) (fun _ _ _ h => h) (Or.inl ⟨by rfl, ?_⟩) ?_ ?_
          rotate_left
          · intro w'
            go_simp
            with_reducible rfl
          rotate_left
          · simp only [Act.put, List.setIfInBounds_toArray, List.set_cons_zero, List.set_cons_succ, i64_w, i32_w]
            rfl
          refine pure_ (i := 11) (N := some 43) (v := ?_) (a' := ?_) #[true, true, true, true, false, false, false, false, false, true, true, true, false, false, false] rfl rfl (by kernel_rfl) (fun _ _ _ h => h) (Or.inl ⟨by rfl, ?_⟩) ?_ ?_
          rotate_left
          · intro w'
            go_simp
            with_reducible rfl
          rotate_left
          · simp only [Act.put, List.setIfInBounds_toArray, List.set_cons_zero, List.set_cons_succ, i64_w, i32_w]
            rfl
          refine take_ (i := 4) (N := some 36) (v := ?_) (a' := ?_) #[true, true, true, true, true, false, false, false, false, true, true, true, false, false, false] rfl rfl (by kernel_rfl) (fun _ _ _ h => h) (Or.inl ⟨by rfl, ?_⟩) hHeld ?_ ?_
          rotate_left
          · rintro w' s0
            go_simp
            with_reducible rfl
          rotate_left
          · simp only [Act.put, List.setIfInBounds_toArray, List.set_cons_zero, List.set_cons_succ, i64_w, i32_w]
            rfl
          refine take_ (i := 12) (N := some 44) (v := ?_) (a' := ?_) #[true, true, true, true, true, false, false, false, false, true, true, true, true, false, false] rfl rfl (by kernel_rfl) (fun _ _ _ h => h) (Or.inl ⟨by rfl, ?_⟩) hHeld ?_ ?_
          rotate_left
          · rintro w' s0
            go_simp
            with_reducible rfl
          rotate_left
          · simp only [Act.put, List.setIfInBounds_toArray, List.set_cons_zero, List.set_cons_succ, i64_w, i32_w]
            rfl
          refine pure_ (i := 5) (N := some 37) (v := ?_) (a' := ?_) #[true, true, true, true, true, true, false, false, false, true, true, true, true, false, false] rfl rfl (by kernel_rfl) (fun _ _ _ h => h) (Or.inl ⟨by rfl, ?_⟩) ?_ ?_
          rotate_left
          · intro w'
            go_simp
            with_reducible rfl
          rotate_left
          · simp only [Act.put, List.setIfInBounds_toArray, List.set_cons_zero, List.set_cons_succ, i64_w, i32_w]
            rfl
          refine pure_ (i := 6) (N := some 38) (v := ?_) (a' := ?_) #[true, true, true, true, true, true, true, false, false, true, true, true, true, false, false] rfl rfl (by kernel_rfl) (fun _ _ _ h => h) (Or.inl ⟨by rfl, ?_⟩) ?_ ?_
          rotate_left
          · intro w'
            go_simp
            with_reducible rfl
          rotate_left
          · simp only [Act.put, List.setIfInBounds_toArray, List.set_cons_zero, List.set_cons_succ, i64_w, i32_w]
            rfl
          refine one_ (i := 7) (N := some 39) #[true, true, true, true, true, true, true, true, false, true, true, true, true, false, false] rfl rfl (by kernel_rfl) (by decide) (fun K hK => ?_)
          refine value_ (w1 := ?_) (v := ?_) (by rfl) rfl ?_ ?_
          rotate_left 2
          · go_simp
            constructor
            · rfl
            · rfl
          have HBb := Lib.hid (HBa.out.alloc HBa.out.size (.cells #[.int .u8 q] 5 (0, 0)))
          refine hK.out _ _ (HCS.out _ HBb.out) (fun hHeld => ?_)
          clear hK K
          refine norm_ (a' := ?_) ?_ ?_
          rotate_left
          · show Act.put _ (some 39) _ = _
            simp only [Act.put, List.setIfInBounds_toArray, List.set_cons_zero, List.set_cons_succ, i64_w, i32_w]
            rfl
          refine one_ (i := 8) (N := some 40) #[true, true, true, true, true, true, true, true, true, true, true, true, true, false, false] rfl rfl (by kernel_rfl) (by decide) (fun K hK => ?_)
          refine Kd.R_append_step (Kd.int .u8) (w0 := w3) w3.heap.size (by rfl) (.tmp 32) (.tmp 39) 33 5 (.int .u8 0) 1 rfl Try.underlying33 info_u8 rfl (by decide) (by decide) u5 Y (q) [.int .u8 (q)] (fun _ => True) (fun _ => False) rfl rfl rfl (fun _ hk => hk.elim) (fun _ _ => trivial) HOa.out HBa.out HBa.out.size ?aL ?_
          (case aL => have := HYL.out; simp only [List.length_append, List.length_singleton, List.length_nil, Nat.mul_one] at this ⊢; omega)
          intro vc Wc ho hb hg hat
          have HOc := Lib.hid ho
          have HBc := Lib.hid hb
          clear ho hb hg hat
          refine hK.out _ _ (HCS.out _ HBc.out) (fun hHeld => ?_)
          clear hK K
          refine norm_ (a' := ?_) ?_ ?_
          rotate_left
          · show Act.put _ (some 40) _ = _
            simp only [Act.put, List.setIfInBounds_toArray, List.set_cons_zero, List.set_cons_succ, i64_w, i32_w]
            rfl
          refine one_ (i := 13) (N := some 45) #[true, true, true, true, true, true, true, true, true, true, true, true, true, true, false] rfl rfl (by kernel_rfl) (by decide) (fun K hK => ?_)
          refine R_append_str_step (w0 := w3) w3.heap.size (by rfl) (.tmp 40) (.tmp 44) 33 9 5 rfl Try.underlying33 Try.underlying9 info_u8 vc (Y ++ [q]) y.f0 rfl rfl HOc.out HBc.out HBc.out.size ?aL ?_
          (case aL => have := HYL.out; have := HSZ.out; simp only [List.length_append, List.length_singleton, Nat.mul_one] at this ⊢; omega)
          intro vd Wd ho hb hg
          have HOd := Lib.hid ho
          have HBd := Lib.hid hb
          clear ho hb hg
          refine hK.out _ _ (HCS.out _ HBd.out) (fun hHeld => ?_)
          clear hK K
          refine norm_ (a' := ?_) ?_ ?_
          rotate_left
          · show Act.put _ (some 45) _ = _
            simp only [Act.put, List.setIfInBounds_toArray, List.set_cons_zero, List.set_cons_succ, i64_w, i32_w]
            rfl
          refine pure_ (i := 14) (N := some 5) (v := ?_) (a' := ?_) #[true, true, true, true, true, true, true, true, true, true, true, true, true, true, true] rfl rfl (by kernel_rfl) (fun _ _ _ h => h) (Or.inl ⟨by rfl, ?_⟩) ?_ ?_
          rotate_left
          · intro w'
            go_simp
            with_reducible rfl
          rotate_left
          · simp only [Act.put, List.setIfInBounds_toArray, List.set_cons_zero, List.set_cons_succ, i64_w, i32_w]
            rfl
          refine done_ (by kernel_rfl) ?_
          go_wp2_with (fail)
          go_meet
          case rel => exact ⟨HOd, HBd⟩
        case rest =>
          obtain ⟨HOd, HBd⟩ := hcut
          have HSL := Lib.hid (show ((Y ++ [q]) ++ bytesOf y.f0).length + 8 * (poolF (ad.add (i * 4)) y).length ≤ 140737488355328 by
            have h1 : (poolF (ad.add (i * 4)) y).length = 3 := rfl
            rw [h1, List.length_append, List.length_append, List.length_singleton, bytesOf_length]
            have := HYL.out
            have := HSZ.out
            omega)
          have HEQ := Lib.hid (show Y ++ poolB y = ((Y ++ [q]) ++ bytesOf y.f0) ++ (poolF (ad.add (i * 4)) y).flatMap Fd.bytes by rw [pool_bytes, ← HQ.out]; unfold poolB; simp only [List.append_assoc])
          have KP := Lib.hid (fun W => pool_mk (ad.add (i * 4)) (truthI y.f1) y.f2 y.f3 W)
          obtain ⟨Z, hZ⟩ : ∃ Z, (Y ++ [q]) ++ bytesOf y.f0 = Z := ⟨_, rfl⟩
          rw [hZ] at HOd HSL HEQ
          clear hq hZ
          go_wp2_with (first
            | (go_at_call 44; refine (KP.out _).mono ?_; rintro e w7 ⟨A7, c7, l7, rfl, hC7, hb7, hx7, hm7, hA7⟩; have KLy := Lib.hid (lay_mk w3 wc w7 _ Z A7 c7 l7 (poolF (ad.add (i * 4)) y) HOd.out HBd.out hC7 hb7 hx7 hm7 hA7 (by exact Nat.succ_pos _) (HPC.out _ (below_step HBd.out hb7)) HPB.out HSL.out); clear hC7 hb7 hx7 hm7 hA7)
            | (go_at_call 47; refine KLy.out.mono ?_; rintro e w8 ⟨v8, rfl, hr8, hb8, _⟩; have HO8 := Lib.hid hr8; have HB8 := Lib.hid hb8; clear hr8 hb8))
          go_roundg (n0 - (i + 1))
          case measure => omega
          case rel => exact ⟨i + 1, by omega, by omega, by go_num, Lib.hid (by rw [HTK.out, HEQ.out]; exact HO8.out), HB8⟩
      · have hin : i = n0 := by omega
        subst hin
        have hta : x.f0.take i = x.f0 := List.take_of_length_le (Nat.le_of_eq HN.out.1)
        rw [hta] at HO
        have hall : ∀ z ∈ x.f0, z.f0.size ≤ 24 := fun z hz => poolOk_size (List.all_eq_true.1 HZ.out.2.2.2 z hz)
        obtain ⟨Y, hY⟩ : ∃ Y, [qa] ++ x.f0.flatMap poolB = Y := ⟨_, rfl⟩
        have HYL := Lib.hid (show Y.length ≤ 4000 by
          have h1 := flat_le poolB 49 x.f0 (fun z hz => poolB_len z (hall z hz))
          rw [HN.out.1] at h1
          have h2 := HZ.out.1
          rw [← hY, List.length_append, List.length_singleton]
          omega)
        rw [hY] at HO HBC
        clear hta hall hY HC0
        obtain ⟨wA, hwA⟩ : ∃ wA, wA = wr := ⟨_, rfl⟩
        subst hwA
        obtain ⟨vA, hvA⟩ : ∃ vA, vA = u5 := ⟨_, rfl⟩
        subst hvA
        go_upto_region 13 with (fail)
        obtain ⟨qb, hqb⟩ : ∃ q, IntKind.u8.wrap (n18 : Int) = q := ⟨_, rfl⟩
        rw [hqb] at HBC
        have HQB := Lib.hid hqb
        go_cut [5] (fun v5 wy => Hid (Kd.R (Kd.int .u8) 5 wy w3.heap.size (fun _ => True) v5 ((Y ++ ownB x) ++ [qb])) ∧ Hid (Below w3.heap.size w3 wy))
        case first =>
          have HOP := Lib.hid (show ∀ f ∈ ownC gb (cfX x), f.p.block < w3.heap.size by
            intro f hf
            simp only [ownC, List.mem_cons, List.not_mem_nil, or_false] at hf
            rcases hf with rfl | rfl | rfl | rfl | rfl | rfl | rfl | rfl | rfl | rfl | rfl | rfl | rfl | rfl | rfl | rfl | rfl <;> exact HGL.out)
          have HSZ := Lib.hid (show Y.length + 8 * (ownC gb (cfX x)).length ≤ 140737488355328 by
            have h1 : (ownC gb (cfX x)).length = 17 := rfl
            rw [h1]
            have := HYL.out
            omega)
          have HSZ2 := Lib.hid (show ((Y ++ ownB x).length + 1) * 1 ≤ 140737488355328 by
            have h1 := ownB_len x
            rw [List.length_append]
            have := HYL.out
            omega)
          have HSL := Lib.hid (fun W (hW : Below w3.heap.size w3 W) => blk_cellk (v := .slice P18 n18 q18) (blk_call hW HG3.out) 18 rfl)
          have HBa := Lib.hid (below_step HB.out (below_drew (Below.refl _ _)))
          have HOa := Lib.hid (Kd.R_drew HO.out)
          refine start_ (n := 10) (S := fun w' => w'.cell? ⟨gb, 18, none⟩ = some (.slice P18 n18 q18)) (ds := []) #[false, false, false, false, false, false, false, false, false, false] (by kernel_rfl) rfl rfl (HSL.out _ HBa.out) (fun hHeld => ?_)
          generalize wA.drew = Wa at HBa HOa hHeld ⊢
          refine pure_ (i := 0) (N := some 51) (v := ?_) (a' := ?_) #[true, false, false, false, false, false, false, false, false, false] rfl rfl (by kernel_rfl) (fun _ _ _ h => h) (Or.inl ⟨by rfl, ?_⟩) ?_ ?_
          rotate_left
          · intro w'
            go_simp
            with_reducible rfl
          rotate_left
          · simp only [Act.put, List.setIfInBounds_toArray, List.set_cons_zero, List.set_cons_succ, i64_w, i32_w]
            rfl
          refine pure_ (i := 3) (N := some 54) (v := ?_) (a' := ?_) #[true, false, false, true, false, false, false, false, false, false] rfl rfl (by kernel_rfl) (fun _ _ _ h => h) (Or.inl ⟨by rfl, ?_⟩) ?_ ?_
          rotate_left
          · intro w'
            go_simp
            with_reducible rfl
          rotate_left
          · simp only [Act.put, List.setIfInBounds_toArray, List.set_cons_zero, List.set_cons_succ, i64_w, i32_w]
            rfl
          refine take_ (i := 4) (N := some 55) (v := ?_) (a' := ?_) #[true, false, false, true, true, false, false, false, false, false] rfl rfl (by kernel_rfl) (fun _ _ _ h => h) (Or.inl ⟨by rfl, ?_⟩) hHeld ?_ ?_
          rotate_left
          · rintro w' s0
            go_simp
            with_reducible rfl
          rotate_left
          · simp only [Act.put, List.setIfInBounds_toArray, List.set_cons_zero, List.set_cons_succ, i64_w, i32_w]
            rfl
          refine pure_ (i := 5) (N := some 56) (v := ?_) (a' := ?_) #[true, false, false, true, true, true, false, false, false, false] rfl rfl (by kernel_rfl) (fun _ _ _ h => h) (Or.inl ⟨by rfl, ?_⟩) ?_ ?_
          rotate_left
          · intro w'
            go_simp
            with_reducible rfl
          rotate_left
          · simp only [Act.put, List.setIfInBounds_toArray, List.set_cons_zero, List.set_cons_succ, i64_w, i32_w]
            rfl
          refine pure_ (i := 6) (N := some 57) (v := ?_) (a' := ?_) #[true, false, false, true, true, true, true, false, false, false] rfl rfl (by kernel_rfl) (fun _ _ _ h => h) (Or.inl ⟨by rfl, ?_⟩) ?_ ?_
          rotate_left
          · intro w'
            go_simp
            with_reducible rfl
          rotate_left
          · simp only [Act.put, List.setIfInBounds_toArray, List.set_cons_zero, List.set_cons_succ, i64_w, i32_w]
            rfl
          refine two_ (i := 1) (j := 7) (Ni := some 52) (Nj := some 58) #[true, true, false, true, true, true, true, false, false, false] #[true, false, false, true, true, true, true, true, false, false] rfl rfl rfl rfl (by kernel_rfl) (by decide) (by decide) (fun K hK => ?_) (fun K hK => ?_)
          · skip
            refine goes_ Try.func42 (by kernel_rfl) rfl #[.pointer (some ⟨gb, 0, none⟩)] (by rfl) rfl rfl (by (try simp only [List.map_toArray, List.map_cons, List.map_nil]); first | done | rfl) ?_
            refine (own_mk gb (cfX x) _).mono ?_
            rintro e Wb ⟨A7, c7, l7, rfl, hC7, hb7, hx7, hm7, hA7⟩
            have KLy := Lib.hid (fun W' (hw : Below Wb.heap.size Wb W') => lay_mk w3 Wa W' vA Y A7 c7 l7 (ownC gb (cfX x)) HOa.out HBa.out (Kd.C_below hC7 hw) (below_step hb7 hw) (fun f hf => ⟨(hx7 f hf).1.below hw, (hx7 f hf).2⟩) hm7 hA7 (Nat.succ_pos _) (ownF_in (blk_call (below_step HBa.out (below_step hb7 hw)) HG3.out)) HOP.out HSZ.out)
            have HBb := Lib.hid (below_step HBa.out hb7)
            have HOb := Lib.hid (Kd.R_below HOa.out hb7)
            clear hC7 hb7 hx7 hm7 hA7
            refine ⟨_, rfl, ?_⟩
            refine hK.out _ _ (HSL.out _ HBb.out) (fun hHeld => ?_)
            clear hK K
            refine norm_ (a' := ?_) ?_ ?_
            rotate_left
            · show Act.put _ (some 52) _ = _
              simp only [Act.put, List.setIfInBounds_toArray, List.set_cons_zero, List.set_cons_succ, i64_w, i32_w]
              rfl
            refine two_ (i := 2) (j := 7) (Ni := some 53) (Nj := some 58) #[true, true, true, true, true, true, true, false, false, false] #[true, true, false, true, true, true, true, true, false, false] rfl rfl rfl rfl (by kernel_rfl) (by decide) (by decide) (fun K hK => ?_) (fun K hK => ?_)
            · skip
              refine goes_ Try.func47 (by kernel_rfl) rfl #[vA, .slice A7 l7.length c7] (by rfl) rfl rfl (by (try simp only [List.map_toArray, List.map_cons, List.map_nil]); first | done | rfl) ?_
              refine (KLy.out _ (Below.refl _ _)).mono ?_
              rintro e Wc ⟨v8, rfl, hr8, hb8, hk8⟩
              have HPc := Lib.hid (show Kd.R (Kd.int .u8) 5 Wc w3.heap.size (fun _ => True) v8 (Y ++ ownB x) from hr8)
              have HBc := Lib.hid hb8
              clear hr8 hb8 hk8
              refine ⟨_, rfl, ?_⟩
              refine hK.out _ _ (HSL.out _ HBc.out) (fun hHeld => ?_)
              clear hK K
              refine norm_ (a' := ?_) ?_ ?_
              rotate_left
              · show Act.put _ (some 53) _ = _
                simp only [Act.put, List.setIfInBounds_toArray, List.set_cons_zero, List.set_cons_succ, i64_w, i32_w]
                rfl
              refine one_ (i := 7) (N := some 58) #[true, true, true, true, true, true, true, true, false, false] rfl rfl (by kernel_rfl) (by decide) (fun K hK => ?_)
              refine value_ (w1 := ?_) (v := ?_) (by rfl) rfl ?_ ?_
              rotate_left 2
              · go_simp
                constructor
                · rfl
                · rfl
              have hbl := (Below.refl Wc.heap.size Wc).alloc (Nat.le_refl _) (.cells #[.int .u8 qb] 5 (0, 0))
              have HLd := Lib.hid (Kd.R_reads' (R_one Wc w3.heap.size HBc.out.size qb)).2.2
              have HBd := Lib.hid (below_step HBc.out hbl)
              have HPd := Lib.hid (Kd.R_below HPc.out hbl)
              have HWd := Lib.hid hbl
              have HLT := Lib.hid (show Wc.heap.size < (Wc.alloc (.cells #[.int .u8 qb] 5 (0, 0))).heap.size by simp)
              generalize (Wc.alloc (.cells #[.int .u8 qb] 5 (0, 0))) = Wd at HLd HBd HPd HWd HLT ⊢
              clear hbl
              refine hK.out _ _ (HSL.out _ HBd.out) (fun hHeld => ?_)
              clear hK K
              refine norm_ (a' := ?_) ?_ ?_
              rotate_left
              · show Act.put _ (some 58) _ = _
                simp only [Act.put, List.setIfInBounds_toArray, List.set_cons_zero, List.set_cons_succ, i64_w, i32_w]
                rfl
              refine one_ (i := 8) (N := some 59) #[true, true, true, true, true, true, true, true, true, false] rfl rfl (by kernel_rfl) (by decide) (fun K hK => ?_)
              refine Kd.R_append_rows_step (Kd.int .u8) (w0 := w3) w3.heap.size (by rfl) (.tmp 53) (.tmp 58) 33 5 (.int .u8 0) 1 rfl Try.underlying33 info_u8 rfl (by decide) (by decide) v8 (Y ++ ownB x) [qb] (some ⟨Wc.heap.size, 0, none⟩) 1 1 (fun _ => True) (fun _ => False) rfl rfl HPd.out HLd.out (fun _ _ h => h) (fun _ h => h.elim) (fun _ _ => trivial) HBd.out HBd.out.size HSZ2.out ?_
              intro vd We ho hb hg hat
              have HQe := Lib.hid ho
              have HBe := Lib.hid hb
              clear ho hb hg hat
              refine hK.out _ _ (HSL.out _ HBe.out) (fun hHeld => ?_)
              clear hK K
              refine norm_ (a' := ?_) ?_ ?_
              rotate_left
              · show Act.put _ (some 59) _ = _
                simp only [Act.put, List.setIfInBounds_toArray, List.set_cons_zero, List.set_cons_succ, i64_w, i32_w]
                rfl
              refine pure_ (i := 9) (N := some 5) (v := ?_) (a' := ?_) #[true, true, true, true, true, true, true, true, true, true] rfl rfl (by kernel_rfl) (fun _ _ _ h => h) (Or.inl ⟨by rfl, ?_⟩) ?_ ?_
              rotate_left
              · intro w'
                go_simp
                with_reducible rfl
              rotate_left
              · simp only [Act.put, List.setIfInBounds_toArray, List.set_cons_zero, List.set_cons_succ, i64_w, i32_w]
                rfl
              refine done_ (by kernel_rfl) ?_
              go_wp2_with (fail)
              go_meet
              case rel => exact ⟨HQe, HBe⟩
            · skip
              refine value_ (w1 := ?_) (v := ?_) (by rfl) rfl ?_ ?_
              rotate_left 2
              · go_simp
                constructor
                · rfl
                · rfl
              have hbl := (Below.refl Wb.heap.size Wb).alloc (Nat.le_refl _) (.cells #[.int .u8 qb] 5 (0, 0))
              have HLc := Lib.hid (Kd.R_reads' (R_one Wb w3.heap.size HBb.out.size qb)).2.2
              have HBc := Lib.hid (below_step HBb.out hbl)
              have HOc := Lib.hid (Kd.R_below HOb.out hbl)
              have HWc := Lib.hid hbl
              have HLT := Lib.hid (show Wb.heap.size < (Wb.alloc (.cells #[.int .u8 qb] 5 (0, 0))).heap.size by simp)
              generalize (Wb.alloc (.cells #[.int .u8 qb] 5 (0, 0))) = Wc at HLc HBc HOc HWc HLT ⊢
              clear hbl
              refine hK.out _ _ (HSL.out _ HBc.out) (fun hHeld => ?_)
              clear hK K
              refine norm_ (a' := ?_) ?_ ?_
              rotate_left
              · show Act.put _ (some 58) _ = _
                simp only [Act.put, List.setIfInBounds_toArray, List.set_cons_zero, List.set_cons_succ, i64_w, i32_w]
                rfl
              refine one_ (i := 2) (N := some 53) #[true, true, true, true, true, true, true, true, false, false] rfl rfl (by kernel_rfl) (by decide) (fun K hK => ?_)
              have HSL2 := Lib.hid (Nat.le_refl Wc.heap.size)
              refine goes_ Try.func47 (by kernel_rfl) rfl #[vA, .slice A7 l7.length c7] (by rfl) rfl rfl (by (try simp only [List.map_toArray, List.map_cons, List.map_nil]); first | done | rfl) ?_
              refine (KLy.out _ HWc.out).mono ?_
              rintro e Wd ⟨v8, rfl, hr8, hb8, hk8⟩
              have HPd := Lib.hid (show Kd.R (Kd.int .u8) 5 Wd w3.heap.size (fun _ => True) v8 (Y ++ ownB x) from hr8)
              have HBd := Lib.hid hb8
              have HLd := Lib.hid (C_keep (w' := Wd) HLc.out (fun _ _ h => h) (fun ad had _ => by
                cases had
                refine hk8 _ ?_ (fun e => ?_)
                · have h1 := HLT.out
                  have h2 := HSL2.out
                  exact Nat.lt_of_lt_of_le h1 h2
                · obtain ⟨_, ho⟩ := Kd.R_own HOb.out
                  have := own_lt ho _ e
                  exact absurd this (Nat.lt_irrefl _)))
              clear hr8 hb8 hk8
              refine ⟨_, rfl, ?_⟩
              refine hK.out _ _ (HSL.out _ HBd.out) (fun hHeld => ?_)
              clear hK K
              refine norm_ (a' := ?_) ?_ ?_
              rotate_left
              · show Act.put _ (some 53) _ = _
                simp only [Act.put, List.setIfInBounds_toArray, List.set_cons_zero, List.set_cons_succ, i64_w, i32_w]
                rfl
              refine one_ (i := 8) (N := some 59) #[true, true, true, true, true, true, true, true, true, false] rfl rfl (by kernel_rfl) (by decide) (fun K hK => ?_)
              refine Kd.R_append_rows_step (Kd.int .u8) (w0 := w3) w3.heap.size (by rfl) (.tmp 53) (.tmp 58) 33 5 (.int .u8 0) 1 rfl Try.underlying33 info_u8 rfl (by decide) (by decide) v8 (Y ++ ownB x) [qb] (some ⟨Wb.heap.size, 0, none⟩) 1 1 (fun _ => True) (fun _ => False) rfl rfl HPd.out HLd.out (fun _ _ h => h) (fun _ h => h.elim) (fun _ _ => trivial) HBd.out HBd.out.size HSZ2.out ?_
              intro vd We ho hb hg hat
              have HQe := Lib.hid ho
              have HBe := Lib.hid hb
              clear ho hb hg hat
              refine hK.out _ _ (HSL.out _ HBe.out) (fun hHeld => ?_)
              clear hK K
              refine norm_ (a' := ?_) ?_ ?_
              rotate_left
              · show Act.put _ (some 59) _ = _
                simp only [Act.put, List.setIfInBounds_toArray, List.set_cons_zero, List.set_cons_succ, i64_w, i32_w]
                rfl
              refine pure_ (i := 9) (N := some 5) (v := ?_) (a' := ?_) #[true, true, true, true, true, true, true, true, true, true] rfl rfl (by kernel_rfl) (fun _ _ _ h => h) (Or.inl ⟨by rfl, ?_⟩) ?_ ?_
              rotate_left
              · intro w'
                go_simp
                with_reducible rfl
              rotate_left
              · simp only [Act.put, List.setIfInBounds_toArray, List.set_cons_zero, List.set_cons_succ, i64_w, i32_w]
                rfl
              refine done_ (by kernel_rfl) ?_
              go_wp2_with (fail)
              go_meet
              case rel => exact ⟨HQe, HBe⟩
          · skip
            refine value_ (w1 := ?_) (v := ?_) (by rfl) rfl ?_ ?_
            rotate_left 2
            · go_simp
              constructor
              · rfl
              · rfl
            have hbl := (Below.refl Wa.heap.size Wa).alloc (Nat.le_refl _) (.cells #[.int .u8 qb] 5 (0, 0))
            have HLb := Lib.hid (Kd.R_reads' (R_one Wa w3.heap.size HBa.out.size qb)).2.2
            have HBb := Lib.hid (below_step HBa.out hbl)
            have HOb := Lib.hid (Kd.R_below HOa.out hbl)
            have HWb := Lib.hid hbl
            have HLT := Lib.hid (show Wa.heap.size < (Wa.alloc (.cells #[.int .u8 qb] 5 (0, 0))).heap.size by simp)
            generalize (Wa.alloc (.cells #[.int .u8 qb] 5 (0, 0))) = Wb at HLb HBb HOb HWb HLT ⊢
            clear hbl
            refine hK.out _ _ (HSL.out _ HBb.out) (fun hHeld => ?_)
            clear hK K
            refine norm_ (a' := ?_) ?_ ?_
            rotate_left
            · show Act.put _ (some 58) _ = _
              simp only [Act.put, List.setIfInBounds_toArray, List.set_cons_zero, List.set_cons_succ, i64_w, i32_w]
              rfl
            refine one_ (i := 1) (N := some 52) #[true, true, false, true, true, true, true, true, false, false] rfl rfl (by kernel_rfl) (by decide) (fun K hK => ?_)
            refine goes_ Try.func42 (by kernel_rfl) rfl #[.pointer (some ⟨gb, 0, none⟩)] (by rfl) rfl rfl (by (try simp only [List.map_toArray, List.map_cons, List.map_nil]); first | done | rfl) ?_
            refine (own_mk gb (cfX x) _).mono ?_
            rintro e Wc ⟨A7, c7, l7, rfl, hC7, hb7, hx7, hm7, hA7⟩
            have KLy := Lib.hid (fun W' (hw : Below Wc.heap.size Wc W') => lay_mk w3 Wb W' vA Y A7 c7 l7 (ownC gb (cfX x)) HOb.out HBb.out (Kd.C_below hC7 hw) (below_step hb7 hw) (fun f hf => ⟨(hx7 f hf).1.below hw, (hx7 f hf).2⟩) hm7 hA7 (Nat.succ_pos _) (ownF_in (blk_call (below_step HBb.out (below_step hb7 hw)) HG3.out)) HOP.out HSZ.out)
            have HBc := Lib.hid (below_step HBb.out hb7)
            have HOc := Lib.hid (Kd.R_below HOb.out hb7)
            have HLc := Lib.hid (Kd.C_below HLb.out hb7)
            have HSc := Lib.hid hb7.size
            clear hC7 hb7 hx7 hm7 hA7
            refine ⟨_, rfl, ?_⟩
            refine hK.out _ _ (HSL.out _ HBc.out) (fun hHeld => ?_)
            clear hK K
            refine norm_ (a' := ?_) ?_ ?_
            rotate_left
            · show Act.put _ (some 52) _ = _
              simp only [Act.put, List.setIfInBounds_toArray, List.set_cons_zero, List.set_cons_succ, i64_w, i32_w]
              rfl
            refine one_ (i := 2) (N := some 53) #[true, true, true, true, true, true, true, true, false, false] rfl rfl (by kernel_rfl) (by decide) (fun K hK => ?_)
            have HSL2 := Lib.hid HSc.out
            refine goes_ Try.func47 (by kernel_rfl) rfl #[vA, .slice A7 l7.length c7] (by rfl) rfl rfl (by (try simp only [List.map_toArray, List.map_cons, List.map_nil]); first | done | rfl) ?_
            refine (KLy.out _ (Below.refl _ _)).mono ?_
            rintro e Wd ⟨v8, rfl, hr8, hb8, hk8⟩
            have HPd := Lib.hid (show Kd.R (Kd.int .u8) 5 Wd w3.heap.size (fun _ => True) v8 (Y ++ ownB x) from hr8)
            have HBd := Lib.hid hb8
            have HLd := Lib.hid (C_keep (w' := Wd) HLc.out (fun _ _ h => h) (fun ad had _ => by
              cases had
              refine hk8 _ ?_ (fun e => ?_)
              · have h1 := HLT.out
                have h2 := HSL2.out
                exact Nat.lt_of_lt_of_le h1 h2
              · obtain ⟨_, ho⟩ := Kd.R_own HOa.out
                have := own_lt ho _ e
                exact absurd this (Nat.lt_irrefl _)))
            clear hr8 hb8 hk8
            refine ⟨_, rfl, ?_⟩
            refine hK.out _ _ (HSL.out _ HBd.out) (fun hHeld => ?_)
            clear hK K
            refine norm_ (a' := ?_) ?_ ?_
            rotate_left
            · show Act.put _ (some 53) _ = _
              simp only [Act.put, List.setIfInBounds_toArray, List.set_cons_zero, List.set_cons_succ, i64_w, i32_w]
              rfl
            refine one_ (i := 8) (N := some 59) #[true, true, true, true, true, true, true, true, true, false] rfl rfl (by kernel_rfl) (by decide) (fun K hK => ?_)
            refine Kd.R_append_rows_step (Kd.int .u8) (w0 := w3) w3.heap.size (by rfl) (.tmp 53) (.tmp 58) 33 5 (.int .u8 0) 1 rfl Try.underlying33 info_u8 rfl (by decide) (by decide) v8 (Y ++ ownB x) [qb] (some ⟨Wa.heap.size, 0, none⟩) 1 1 (fun _ => True) (fun _ => False) rfl rfl HPd.out HLd.out (fun _ _ h => h) (fun _ h => h.elim) (fun _ _ => trivial) HBd.out HBd.out.size HSZ2.out ?_
            intro vd We ho hb hg hat
            have HQe := Lib.hid ho
            have HBe := Lib.hid hb
            clear ho hb hg hat
            refine hK.out _ _ (HSL.out _ HBe.out) (fun hHeld => ?_)
            clear hK K
            refine norm_ (a' := ?_) ?_ ?_
            rotate_left
            · show Act.put _ (some 59) _ = _
              simp only [Act.put, List.setIfInBounds_toArray, List.set_cons_zero, List.set_cons_succ, i64_w, i32_w]
              rfl
            refine pure_ (i := 9) (N := some 5) (v := ?_) (a' := ?_) #[true, true, true, true, true, true, true, true, true, true] rfl rfl (by kernel_rfl) (fun _ _ _ h => h) (Or.inl ⟨by rfl, ?_⟩) ?_ ?_
            rotate_left
            · intro w'
              go_simp
              with_reducible rfl
            rotate_left
            · simp only [Act.put, List.setIfInBounds_toArray, List.set_cons_zero, List.set_cons_succ, i64_w, i32_w]
              rfl
            refine done_ (by kernel_rfl) ?_
            go_wp2_with (fail)
            go_meet
            case rel => exact ⟨HQe, HBe⟩
        case rest =>
          obtain ⟨HOx, HBx⟩ := hcut
          obtain ⟨Y2, hY2⟩ : ∃ Y2, (Y ++ ownB x) ++ [qb] = Y2 := ⟨_, rfl⟩
          have HY2 := Lib.hid (show Y2.length ≤ 4200 by
            have h1 := ownB_len x
            have h2 := HYL.out
            rw [← hY2, List.length_append, List.length_append, List.length_singleton]
            omega)
          rw [hY2] at HOx HBC
          clear hqb hY2 HO HB HYL
          have HE := Lib.hid (fun W (hW : Below w3.heap.size w3 W) => blk_cellk (v := .slice P18 n18 q18) (blk_call hW HG3.out) 18 rfl)
          have hcl := HE.out _ HBx.out
          go_wp2_with (fail)
          clear hcl
          go_loopg [5, 63] n18 (fun gg v5 vj wr => ∃ (j : Nat), j ≤ n18 ∧ n18 - j ≤ gg ∧ vj = .int .i64 j ∧ Hid (Kd.R (Kd.int .u8) 5 wr w3.heap.size (fun _ => True) v5 (Y2 ++ (x.f18.take j).flatMap bandB)) ∧ Hid (Below w3.heap.size w3 wr))
          case atStart => exact ⟨0, Nat.zero_le _, by omega, rfl, by simpa using HOx, HBx⟩
          case round =>
            clear HOx HBx
            obtain ⟨j, hj, hgj, rfl, HO, HB⟩ := hrel
            by_cases hlt : j < n18
            · have hltz : (j : Int) < (n18 : Int) := by omega
              have w1e : IntKind.i64.wrap ((j : Int) + 1) = (j : Int) + 1 := by rw [IntKind.wrap_i64]; have := HZ.out.2.1; omega
              obtain ⟨ad, ea, hcc⟩ := kBand_C HC18.out j hlt
              subst ea
              have hyi : x.f18[j]? = some (x.f18.getD j z39) := by rw [List.getD_eq_getElem?_getD, List.getElem?_eq_getElem (by rw [HN.out.2.1]; exact hlt)]; rfl
              obtain ⟨y, hy⟩ : ∃ y, x.f18.getD j z39 = y := ⟨_, rfl⟩
              rw [hy] at hcc hyi
              have HTK := Lib.hid (show Y2 ++ (x.f18.take (j + 1)).flatMap bandB = (Y2 ++ (x.f18.take j).flatMap bandB) ++ bandB y by rw [List.take_add_one, hyi, List.flatMap_append, List.append_assoc]; simp)
              obtain ⟨Z, hZ⟩ : ∃ Z, Y2 ++ (x.f18.take j).flatMap bandB = Z := ⟨_, rfl⟩
              have HSL := Lib.hid (show Z.length + 8 * (bandF (ad.add (j * 2)) y).length ≤ 140737488355328 by
                have h0 : (bandF (ad.add (j * 2)) y).length = 2 := rfl
                have h1 := flat_le bandB 16 (x.f18.take j) (fun z _ => bandB_len z)
                rw [List.length_take] at h1
                have h2 := HZ.out.2.1
                have h3 := HY2.out
                rw [h0, ← hZ, List.length_append]
                omega)
              rw [hZ] at HO HTK
              have HCC := Lib.hid hcc
              have HPC := Lib.hid (fun W (hW : Below w3.heap.size w3 W) => bandF_in (y := y) (fun j v hv => cap_keep (HCC.out j v hv) hW))
              have HPB := Lib.hid (show ∀ f ∈ bandF (ad.add (j * 2)) y, f.p.block < w3.heap.size by
                intro f hf
                have h1 := World.block_lt_of_cell? w3 _ (hcc 0 _ rfl)
                simp only [bandF, bandC, List.mem_cons, List.not_mem_nil, or_false] at hf
                rw [add_block] at h1
                rcases hf with rfl | rfl <;> (show (Addr.add _ _).block < _; rw [add_block]; first | exact h1 | (rw [add_block] at h1; exact h1)))
              have KP := Lib.hid (fun W => band_mk (ad.add (j * 2)) y.f0 y.f1 W)
              have hcl := HE.out _ HB.out
              clear hy hcc hyi hZ
              go_wp2_with (first
                | (go_at_call 45; refine (KP.out _).mono ?_; rintro e w7 ⟨A7, c7, l7, rfl, hC7, hb7, hx7, hm7, hA7⟩; have KLy := Lib.hid (lay_mk w3 wr w7 _ Z A7 c7 l7 (bandF (ad.add (j * 2)) y) HO.out HB.out hC7 hb7 hx7 hm7 hA7 (by exact Nat.succ_pos _) (HPC.out _ (below_step HB.out hb7)) HPB.out HSL.out); clear hC7 hb7 hx7 hm7 hA7)
                | (go_at_call 47; refine KLy.out.mono ?_; rintro e w8 ⟨v8, rfl, hr8, hb8, _⟩; have HO8 := Lib.hid hr8; have HB8 := Lib.hid hb8; clear hr8 hb8))
              go_roundg (n18 - (j + 1))
              case measure => omega
              case rel => exact ⟨j + 1, by omega, by omega, by go_num, Lib.hid (by rw [HTK.out]; exact HO8.out), HB8⟩
            · have hjn : j = n18 := by omega
              subst hjn
              have hta : x.f18.take j = x.f18 := List.take_of_length_le (Nat.le_of_eq HN.out.2.1)
              rw [hta] at HO
              clear hta
              obtain ⟨Y4, hY4⟩ : ∃ Y4, Y2 ++ x.f18.flatMap bandB = Y4 := ⟨_, rfl⟩
              have HY4 := Lib.hid (show Y4.length ≤ 4400 by
                have h1 := flat_le bandB 16 x.f18 (fun z _ => bandB_len z)
                rw [HN.out.2.1] at h1
                have h2 := HZ.out.2.1
                have h3 := HY2.out
                rw [← hY4, List.length_append]
                omega)
              rw [hY4] at HO HBC
              obtain ⟨qc, hqc⟩ : ∃ q, IntKind.u8.wrap (n19 : Int) = q := ⟨_, rfl⟩
              rw [hqc] at HBC
              obtain ⟨Y3, hY3⟩ : ∃ Y3, Y4 ++ [qc] = Y3 := ⟨_, rfl⟩
              have HY3 := Lib.hid (show Y3.length ≤ 4500 by have := HY4.out; rw [← hY3, List.length_append, List.length_singleton]; omega)
              have HYE := Lib.hid hY3
              rw [hY3] at HBC
              clear hY3 hY4
              obtain ⟨wB, hwB⟩ : ∃ wB, wB = wr := ⟨_, rfl⟩
              subst hwB
              obtain ⟨vB, hvB⟩ : ∃ vB, vB = u5 := ⟨_, rfl⟩
              subst hvB
              have hcl := blk_cellk (v := .slice P19 n19 q19) (blk_call HB.out HG3.out) 19 rfl
              go_upto_region 20 with (first
                | ((with_reducible refine gate_builtin (b := .append) (xs := #[.tmp 74, .tmp 79]) rfl ?_); at_builtin; refine Kd.R_append (Kd.int .u8) (w0 := w3) w3.heap.size rfl (.tmp 74) (.tmp 79) 33 5 (.int .u8 0) 1 rfl Try.underlying33 info_u8 rfl (by decide) (by decide) vB Y4 qc [.int .u8 qc] (fun _ => True) (fun _ => False) rfl rfl rfl (fun _ hk => hk.elim) (fun _ _ => trivial) HO.out HB.out HB.out.size (by have := HY4.out; omega) ?_; intro v1 w9 ho hb hg hat; rw [HYE.out] at ho; have HOx := Lib.hid ho; have HBx := Lib.hid hb; clear ho hb hg hat))
              clear hcl hqc HO HB HE
              have HE := Lib.hid (fun W (hW : Below w3.heap.size w3 W) => blk_cellk (v := .slice P19 n19 q19) (blk_call hW HG3.out) 19 rfl)
              have hcl := HE.out _ HBx.out
              go_wp2_with (fail)
              clear hcl
              go_loopg [5, 84] n19 (fun gg v5 vj wr => ∃ (j : Nat), j ≤ n19 ∧ n19 - j ≤ gg ∧ vj = .int .i64 j ∧ Hid (Kd.R (Kd.int .u8) 5 wr w3.heap.size (fun _ => True) v5 (Y3 ++ (x.f19.take j).flatMap planB)) ∧ Hid (Below w3.heap.size w3 wr))
              case atStart => exact ⟨0, Nat.zero_le _, by omega, rfl, by simpa using HOx, HBx⟩
              case round =>
                clear HOx HBx
                obtain ⟨j, hj, hgj, rfl, HO, HB⟩ := hrel
                by_cases hlt : j < n19
                · have hltz : (j : Int) < (n19 : Int) := by omega
                  have w1e : IntKind.i64.wrap ((j : Int) + 1) = (j : Int) + 1 := by rw [IntKind.wrap_i64]; have := HZ.out.2.2.1; omega
                  obtain ⟨ad, ea, hcc⟩ := kPlan_C HC19.out j hlt
                  subst ea
                  have hyi : x.f19[j]? = some (x.f19.getD j z41) := by rw [List.getD_eq_getElem?_getD, List.getElem?_eq_getElem (by rw [HN.out.2.2]; exact hlt)]; rfl
                  obtain ⟨y, hy⟩ : ∃ y, x.f19.getD j z41 = y := ⟨_, rfl⟩
                  rw [hy] at hcc hyi
                  have HTK := Lib.hid (show Y3 ++ (x.f19.take (j + 1)).flatMap planB = (Y3 ++ (x.f19.take j).flatMap planB) ++ planB y by rw [List.take_add_one, hyi, List.flatMap_append, List.append_assoc]; simp)
                  obtain ⟨Z, hZ⟩ : ∃ Z, Y3 ++ (x.f19.take j).flatMap planB = Z := ⟨_, rfl⟩
                  have HSL := Lib.hid (show Z.length + 8 * (planF (ad.add (j * 3)) y).length ≤ 140737488355328 by
                    have h0 : (planF (ad.add (j * 3)) y).length = 3 := rfl
                    have h1 := flat_le planB 24 (x.f19.take j) (fun z _ => planB_len z)
                    rw [List.length_take] at h1
                    have h2 := HZ.out.2.2.1
                    have h3 := HY3.out
                    rw [h0, ← hZ, List.length_append]
                    omega)
                  rw [hZ] at HO HTK
                  have HCC := Lib.hid hcc
                  have HPC := Lib.hid (fun W (hW : Below w3.heap.size w3 W) => planF_in (y := y) (fun j v hv => cap_keep (HCC.out j v hv) hW))
                  have HPB := Lib.hid (show ∀ f ∈ planF (ad.add (j * 3)) y, f.p.block < w3.heap.size by
                    intro f hf
                    have h1 := World.block_lt_of_cell? w3 _ (hcc 0 _ rfl)
                    simp only [planF, planC, List.mem_cons, List.not_mem_nil, or_false] at hf
                    rw [add_block] at h1
                    rcases hf with rfl | rfl | rfl <;> (show (Addr.add _ _).block < _; rw [add_block]; first | exact h1 | (rw [add_block] at h1; exact h1)))
                  have KP := Lib.hid (fun W => plan_mk (ad.add (j * 3)) y.f0 y.f1 y.f2 W)
                  have hcl := HE.out _ HB.out
                  clear hy hcc hyi hZ
                  go_wp2_with (first
                    | (go_at_call 46; refine (KP.out _).mono ?_; rintro e w7 ⟨A7, c7, l7, rfl, hC7, hb7, hx7, hm7, hA7⟩; have KLy := Lib.hid (lay_mk w3 wr w7 _ Z A7 c7 l7 (planF (ad.add (j * 3)) y) HO.out HB.out hC7 hb7 hx7 hm7 hA7 (by exact Nat.succ_pos _) (HPC.out _ (below_step HB.out hb7)) HPB.out HSL.out); clear hC7 hb7 hx7 hm7 hA7)
                    | (go_at_call 47; refine KLy.out.mono ?_; rintro e w8 ⟨v8, rfl, hr8, hb8, _⟩; have HO8 := Lib.hid hr8; have HB8 := Lib.hid hb8; clear hr8 hb8))
                  go_roundg (n19 - (j + 1))
                  case measure => omega
                  case rel => exact ⟨j + 1, by omega, by omega, by go_num, Lib.hid (by rw [HTK.out]; exact HO8.out), HB8⟩
                · have hjn : j = n19 := by omega
                  subst hjn
                  have hta : x.f19.take j = x.f19 := List.take_of_length_le (Nat.le_of_eq HN.out.2.2)
                  rw [hta] at HO
                  clear hta
                  rw [← HBC.out] at HO
                  go_wp2_with (fail)
                  go_ret2
                  exact ⟨_, rfl, Kd.R_lower HO.out HB3.out.size, below_step HB3.out HB.out⟩
end Go.Proofs.Ytgiokbhedblkfaa.C
