/- conf.Check. -/
import Derived.Test.YtgiokbhedblkfaaCfChk1
namespace Go.Proofs.Ytgiokbhedblkfaa.C
open Go.RowKit Go.Proofs.YtgiokbhedblkfaaW.PrintWords Go.Proofs.YtgiokbhedblkfaaW.PrintLast Go.Proofs.YtgiokbhedblkfaaW.PrintMore Go.Proofs.Ytgiokbhedblkfaa.H
set_option linter.unusedVariables false
set_option linter.unusedSimpArgs false
def metS (names : List ByteArray) (m : List (ByteArray × Int)) : Prop := ∀ k, (k ∈ names → (lookL m k).getD 0 = 1) ∧ (k ∉ names → (lookL m k).getD 0 = 0)
theorem metS_nil : metS [] [] := fun k => ⟨fun h => by simp at h, fun _ => by simp [lookL, posL]⟩
theorem metS_next {names : List ByteArray} {m : List (ByteArray × Int)} (h : metS names m) (s : ByteArray) : metS (names ++ [s]) (setL m s 1) := by
  intro k
  rw [lookL_setL]
  by_cases e : k = s
  · subst e; simp
  · rw [if_neg e]
    refine ⟨fun hk => (h k).1 ?_, fun hk => (h k).2 ?_⟩
    · rcases List.mem_append.1 hk with h1 | h1
      · exact h1
      · exact absurd (List.mem_singleton.1 h1) e
    · exact fun h1 => hk (List.mem_append.2 (.inl h1))
theorem cap_keep {w W : World} {p : Addr} {v : Value} (h : w.cell? p = some v) (hb : Below w.heap.size w W) : W.cell? p = some v := (hb.cell (World.block_lt_of_cell? w _ h)).trans h
theorem put_no_ (a : Act) (v : Value) : a.put none v = a := rfl
theorem zeroInt (w : World) : (zeroValue 3).run Try.prog w = .ok (.int .i64 0) w := by kernel_rfl
/-- A call that makes fields, then fine: as two arms' facts. -/
theorem fine_of {cs : List Fd} {w w1 : World} {A : Option Addr} {c : Nat} {l : List Fd} (hC : Kd.C kFd w1 A l.length l) (hb : ∀ f ∈ l, f.Box w1 ∧ w.heap.size ≤ f.g) (hm : l.map Fd.noG = cs) (hi : ∀ f ∈ cs, f.In w1) :
    Calls Try.prog 41 #[.slice A l.length c] w1 fun e w' => e = .returned (.bool (fineL cs)) ∧ Below w1.heap.size w1 w' := by
  have h := fine_calls A c l w1 hC (fds_in hb hm hi)
  rw [← fine_noG, hm] at h
  exact h
set_option maxHeartbeats 16000000 in
set_option maxRecDepth 100000 in
theorem check_calls (x : S27) (A0 A18 A19 : Option Addr) (c0 c18 c19 : Nat) (w : World) (h0 : Kd.C k37 w A0 x.f0.length x.f0) (h18 : Kd.C k39 w A18 x.f18.length x.f18) (h19 : Kd.C k41 w A19 x.f19.length x.f19) :
    Calls Try.prog 14 #[cfgV x (.slice A0 x.f0.length c0) (.slice A18 x.f18.length c18) (.slice A19 x.f19.length c19)] w fun e w' => e = .returned (.int .i64 (checkC x)) ∧ Below w.heap.size w w' := by
  have hv : cfgV x (.slice A0 x.f0.length c0) (.slice A18 x.f18.length c18) (.slice A19 x.f19.length c19) = .agg (cfgC x (.slice A0 x.f0.length c0) (.slice A18 x.f18.length c18) (.slice A19 x.f19.length c19)) := rfl
  rw [hv]
  clear hv
  obtain ⟨r, hr⟩ : ∃ r, checkC x = r := ⟨_, rfl⟩
  rw [hr]
  have hg1 := heap_alloc_new w (.cells (cfgC x (.slice A0 x.f0.length c0) (.slice A18 x.f18.length c18) (.slice A19 x.f19.length c19)) 27 (0, 0))
  have HG1 := Lib.hid hg1
  have HB1 := Lib.hid ((Below.refl w.heap.size w).alloc (Nat.le_refl _) (.cells (cfgC x (.slice A0 x.f0.length c0) (.slice A18 x.f18.length c18) (.slice A19 x.f19.length c19)) 27 (0, 0)))
  have HR := Lib.hid hr
  clear hg1
  have hlim3 : (64 < x.f0.length ∨ 8 < x.f18.length ∨ 16 < x.f19.length) → r = 3 := fun h => by rw [← hr]; unfold checkC; rw [if_pos h]
  have HL3 := Lib.hid hlim3
  clear hlim3 hr
  have KC := Lib.hid (fun W (hb : Below w.heap.size w W) (l0 : x.f0.length ≤ 64) (l18 : x.f18.length ≤ 8) (l19 : x.f19.length ≤ 16) => copy_calls x A0 A18 A19 c0 c18 c19 W (Kd.C_below h0 hb) (Kd.C_below h18 hb) (Kd.C_below h19 hb) (by omega) (by omega) (by omega))
  simp only [cfgV] at KC
  clear h0 h18 h19
  go_enter Try.func14, Try.ntmps14
  go_upto_region 1 with (fail)
  have hc0 := blk_cellk (v := .slice A0 x.f0.length c0) HG1.out 0 rfl
  have hc18 := blk_cellk (v := .slice A18 x.f18.length c18) HG1.out 18 rfl
  have hc19 := blk_cellk (v := .slice A19 x.f19.length c19) HG1.out 19 rfl
  generalize (w.alloc (.cells (cfgC x (.slice A0 x.f0.length c0) (.slice A18 x.f18.length c18) (.slice A19 x.f19.length c19)) 27 (0, 0))) = wx at HB1 HG1 hc0 hc18 hc19 ⊢
  obtain ⟨gb, hgb⟩ : ∃ gb, w.heap.size = gb := ⟨_, rfl⟩
  rw [hgb] at HG1 hc0 hc18 hc19 ⊢
  have HGB := Lib.hid hgb
  clear hgb
  by_cases g0 : 64 < x.f0.length
  · have g0z : (64 : Int) < (x.f0.length : Int) := by omega
    have hr3 := HL3.out (.inl g0)
    subst hr3
    go_wp2_with (fail)
    go_ret
    exact ⟨rfl, HB1.out⟩
  have g0z : ¬ (64 : Int) < (x.f0.length : Int) := by omega
  by_cases g18 : 8 < x.f18.length
  · have g18z : (8 : Int) < (x.f18.length : Int) := by omega
    have hr3 := HL3.out (.inr (.inl g18))
    subst hr3
    go_wp2_with (fail)
    go_ret
    exact ⟨rfl, HB1.out⟩
  have g18z : ¬ (8 : Int) < (x.f18.length : Int) := by omega
  by_cases g19 : 16 < x.f19.length
  · have g19z : (16 : Int) < (x.f19.length : Int) := by omega
    have hr3 := HL3.out (.inr (.inr g19))
    subst hr3
    go_wp2_with (fail)
    go_ret
    exact ⟨rfl, HB1.out⟩
  have g19z : ¬ (16 : Int) < (x.f19.length : Int) := by omega
  have HLM := Lib.hid (And.intro (show x.f0.length ≤ 64 by omega) (And.intro (show x.f18.length ≤ 8 by omega) (show x.f19.length ≤ 16 by omega)))
  clear HL3
  go_upto_region 3 with (fail)
  clear hc0 hc18 hc19 g0z g18z g19z g0 g18 g19
  go_upto_region 4 with (first
    | ((with_reducible refine gate_load 27 rfl ?_); refine wpList_load_row rfl 27 _ rfl _ rfl 27 _ _ _ HG1.out Try.underlying27 rfl (by kernel_rfl) ?_)
    | (go_at_call 13; refine (KC.out _ HB1.out HLM.out.1 HLM.out.2.1 HLM.out.2.2).mono ?_; rintro e w2 ⟨v0, v18, v19, rfl, hr0, hr18, hr19, hb⟩; obtain ⟨P0, q0, hu0⟩ := Kd.R_slice hr0; obtain ⟨P18, q18, hu18⟩ := Kd.R_slice hr18; obtain ⟨P19, q19, hu19⟩ := Kd.R_slice hr19; subst hu0; subst hu18; subst hu19; have HG2 := Lib.hid (blk_call hb HG1.out); have HB2 := Lib.hid (below_step HB1.out hb); have HR0 := Lib.hid hr0; have HR18 := Lib.hid hr18; have HR19 := Lib.hid hr19; clear hr0 hr18 hr19 hb)
    | ((with_reducible refine gate_storeT 27 rfl ?_); refine wpList_store_row rfl 27 _ _ rfl _ _ rfl rfl 27 _ HG2.out (by kernel_rfl) rfl (cfg_one x _ _ _ rfl rfl rfl) ?_))
  have HG3 := Lib.hid (setRow_heap w2 gb _ (cfgC x (.slice P0 x.f0.length q0) (.slice P18 x.f18.length q18) (.slice P19 x.f19.length q19)) 27 (0, 0) HG2.out)
  have HB3 := Lib.hid (below_setRow HB2.out (Nat.le_of_eq HGB.out) (cfgC x (.slice P0 x.f0.length q0) (.slice P18 x.f18.length q18) (.slice P19 x.f19.length q19)))
  have HC0 := Lib.hid (Kd.R_reads' (R_setRow (cs := cfgC x (.slice P0 x.f0.length q0) (.slice P18 x.f18.length q18) (.slice P19 x.f19.length q19)) HR0.out HG2.out (by decide))).2.2
  have HC18 := Lib.hid (Kd.R_reads' (R_setRow (cs := cfgC x (.slice P0 x.f0.length q0) (.slice P18 x.f18.length q18) (.slice P19 x.f19.length q19)) HR18.out HG2.out (by decide))).2.2
  have HC19 := Lib.hid (Kd.R_reads' (R_setRow (cs := cfgC x (.slice P0 x.f0.length q0) (.slice P18 x.f18.length q18) (.slice P19 x.f19.length q19)) HR19.out HG2.out (by decide))).2.2
  clear HR0 HR18 HR19 HG2 HB2 HG1 HB1 KC
  generalize (w2.setRow gb (cfgC x (.slice P0 x.f0.length q0) (.slice P18 x.f18.length q18) (.slice P19 x.f19.length q19))) = w3 at HG3 HB3 HC0 HC18 HC19 ⊢
  have hc0 := blk_cellk (v := .slice P0 x.f0.length q0) HG3.out 0 rfl
  rw [put_no_]
  go_cut [3] (fun v3 wy => v3 = .bool (decide (0 < x.f0.length) && (ownOk x && decide (x.f4 ≤ x.f5))) ∧ Hid (Below w3.heap.size w3 wy))
  case first =>
    have KO := Lib.hid (own_mk gb (cfX x) w3)
    by_cases hz : 0 < x.f0.length
    · have hzz : (0 : Int) < (x.f0.length : Int) := by omega
      have d0 : decide (0 < x.f0.length) = true := decide_eq_true hz
      have D0 := Lib.hid d0
      clear d0
      obtain ⟨b1, hb1⟩ : ∃ b, ownOk x = b := ⟨_, rfl⟩
      have HB1 := Lib.hid hb1
      clear hb1
      cases b1 with
      | false =>
        go_wp2_with (first
          | (go_at_call 42; refine KO.out.mono ?_; rintro e w4 ⟨A4, c4, l4, rfl, hC4, hb4, hx4, hm4, _⟩; have KF := Lib.hid (fine_of (c := c4) hC4 hx4 hm4 (ownF_in (blk_call hb4 HG3.out))); rw [own_same, HB1.out] at KF; have HB4 := Lib.hid hb4; clear hC4 hb4 hx4 hm4)
          | (go_at_call 41; refine KF.out.mono ?_; rintro e w5 ⟨rfl, hb5⟩; have HB5 := Lib.hid (below_step HB4.out hb5); clear hb5))
        go_meet
        case rel => exact ⟨by rw [D0.out, HB1.out]; rfl, HB5⟩
      | true =>
        by_cases hle : x.f4 ≤ x.f5
        · have d1 : decide (x.f4 ≤ x.f5) = true := decide_eq_true hle
          have D1 := Lib.hid d1
          go_wp2_with (first
            | (go_at_call 42; refine KO.out.mono ?_; rintro e w4 ⟨A4, c4, l4, rfl, hC4, hb4, hx4, hm4, _⟩; have KF := Lib.hid (fine_of (c := c4) hC4 hx4 hm4 (ownF_in (blk_call hb4 HG3.out))); rw [own_same, HB1.out] at KF; have HB4 := Lib.hid hb4; clear hC4 hb4 hx4 hm4)
            | (go_at_call 41; refine KF.out.mono ?_; rintro e w5 ⟨rfl, hb5⟩; have HB5 := Lib.hid (below_step HB4.out hb5); have hc4 := blk_cellk (v := .int .i64 x.f4) (blk_call HB5.out HG3.out) 4 rfl; have hc5 := blk_cellk (v := .int .i64 x.f5) (blk_call HB5.out HG3.out) 5 rfl; clear hb5))
          go_meet
          case rel => exact ⟨by rw [D0.out, HB1.out, D1.out]; rfl, HB5⟩
        · have d1 : decide (x.f4 ≤ x.f5) = false := decide_eq_false hle
          have D1 := Lib.hid d1
          go_wp2_with (first
            | (go_at_call 42; refine KO.out.mono ?_; rintro e w4 ⟨A4, c4, l4, rfl, hC4, hb4, hx4, hm4, _⟩; have KF := Lib.hid (fine_of (c := c4) hC4 hx4 hm4 (ownF_in (blk_call hb4 HG3.out))); rw [own_same, HB1.out] at KF; have HB4 := Lib.hid hb4; clear hC4 hb4 hx4 hm4)
            | (go_at_call 41; refine KF.out.mono ?_; rintro e w5 ⟨rfl, hb5⟩; have HB5 := Lib.hid (below_step HB4.out hb5); have hc4 := blk_cellk (v := .int .i64 x.f4) (blk_call HB5.out HG3.out) 4 rfl; have hc5 := blk_cellk (v := .int .i64 x.f5) (blk_call HB5.out HG3.out) 5 rfl; clear hb5))
          go_meet
          case rel => exact ⟨by rw [D0.out, HB1.out, D1.out]; rfl, HB5⟩
    · have hzz : ¬ (0 : Int) < (x.f0.length : Int) := by omega
      have d0 : decide (0 < x.f0.length) = false := decide_eq_false hz
      have D0 := Lib.hid d0
      clear d0
      go_wp2_with (fail)
      go_meet
      case rel => exact ⟨by rw [D0.out]; rfl, Lib.hid (Below.refl _ _)⟩
  case rest =>
    obtain ⟨rfl, HBc⟩ := hcut
    have HG4 := Lib.hid (blk_call HBc.out HG3.out)
    have HB4 := Lib.hid (below_step HB3.out HBc.out)
    have HD0 := Lib.hid (Kd.C_below HC0.out HBc.out)
    have HD18 := Lib.hid (Kd.C_below HC18.out HBc.out)
    have HD19 := Lib.hid (Kd.C_below HC19.out HBc.out)
    clear HC0 HC18 HC19 HG3 HB3 HBc hc0
    obtain ⟨ok0, hok0⟩ : ∃ b, (decide (0 < x.f0.length) && (ownOk x && decide (x.f4 ≤ x.f5))) = b := ⟨_, rfl⟩
    rw [hok0]
    have HOK0 := Lib.hid hok0
    clear hok0
    obtain ⟨n0, hn0⟩ : ∃ n, x.f0.length = n := ⟨_, rfl⟩
    obtain ⟨n18, hn18⟩ : ∃ n, x.f18.length = n := ⟨_, rfl⟩
    obtain ⟨n19, hn19⟩ : ∃ n, x.f19.length = n := ⟨_, rfl⟩
    rw [hn0] at HG4 HD0
    rw [hn18] at HG4 HD18
    rw [hn19] at HG4 HD19
    rw [hn0, hn18, hn19] at HLM
    try rw [hn0]
    try rw [hn18]
    try rw [hn19]
    have HN := Lib.hid (And.intro hn0 (And.intro hn18 hn19))
    clear hn0 hn18 hn19
    have hmm := @run_makeMap Try.prog
    have HM0 := Lib.hid (MapR.made (encK := Value.string) (encV := Value.int .i64) wc)
    have hbm := (Below.refl wc.heap.size wc).alloc (Nat.le_refl _) (.map #[] 0)
    have HBM := Lib.hid hbm
    have hc0 := blk_cellk (v := .slice P0 n0 q0) (blk_call hbm HG4.out) 0 rfl
    clear hbm
    go_wp2_with (fail)
    clear hmm hc0
    obtain ⟨mb, hmb⟩ : ∃ mb, wc.heap.size = mb := ⟨_, rfl⟩
    rw [hmb] at HM0 ⊢
    have HMB := Lib.hid hmb
    clear hmb
    go_loopg [3, 46] n0 (fun gg v3 v46 wr => ∃ (i : Nat) (m : List (ByteArray × Int)), i ≤ n0 ∧ n0 - i ≤ gg ∧ v46 = .int .i64 i ∧ v3 = .bool (ok0 && (x.f0.take i).all poolOk) ∧ Hid (((x.f0.take i).map (fun y => y.f0)).Nodup) ∧ Hid (metS ((x.f0.take i).map (fun y => y.f0)) m) ∧ Hid (MapR Value.string (Value.int .i64) wr mb m) ∧ Hid (Below wc.heap.size wc wr))
    case atStart => exact ⟨0, [], Nat.zero_le _, by omega, rfl, by simp, Lib.hid (by simp), Lib.hid (by simpa using metS_nil), HM0, HBM⟩
    case round =>
      clear HM0 HBM
      obtain ⟨i, m, hi, hgg, rfl, rfl, HND, HMS, HM, HB⟩ := hrel
      by_cases hlt : i < n0
      · have hltz : (i : Int) < (n0 : Int) := by omega
        have w1e : IntKind.i64.wrap ((i : Int) + 1) = (i : Int) + 1 := by rw [IntKind.wrap_i64]; have := HLM.out.1; omega
        obtain ⟨ad, ea, hcc⟩ := kPool_C HD0.out i hlt
        subst ea
        obtain ⟨y, hy⟩ : ∃ y, x.f0.getD i z37 = y := ⟨_, rfl⟩
        rw [hy] at hcc
        have hyi : x.f0[i]? = some y := by rw [← hy, List.getD_eq_getElem?_getD, List.getElem?_eq_getElem (by rw [HN.out.1]; exact hlt)]; rfl
        have htk : x.f0.take (i + 1) = x.f0.take i ++ [y] := by rw [List.take_add_one, hyi]; rfl
        have HTK := Lib.hid htk
        have HCC := Lib.hid hcc
        have hc0 := blk_cellk (v := .slice (some ad) n0 q0) (blk_call HB.out HG4.out) 0 rfl
        have hcs : ∀ W, Below wc.heap.size wc W → W.cell? (ad.add (i * 4)) = some (.string y.f0) := fun W hW => by
          have h := cap_keep (hcc 0 _ rfl) hW
          rwa [addr_add0] at h
        have HCS := Lib.hid hcs
        have hcn := hcs _ HB.out
        by_cases hdup : y.f0 ∈ (x.f0.take i).map (fun y => y.f0)
        · have HCN := Lib.hid ((HMS.out y.f0).1 hdup)
          have hr8 : r = 8 := by
            rw [← HR.out]
            unfold checkC
            have := HLM.out
            rw [if_neg (by rw [HN.out.1, HN.out.2.1, HN.out.2.2]; omega), if_pos]
            intro hnd
            have e : (x.f0.take (i + 1)).map (fun y => y.f0) = (x.f0.take i).map (fun y => y.f0) ++ [y.f0] := by rw [htk, List.map_append]; rfl
            have h1 := List.Nodup.sublist ((List.take_sublist (i + 1) x.f0).map (fun y => y.f0)) hnd
            rw [e, List.nodup_append] at h1
            exact h1.2.2 _ hdup _ (List.mem_singleton.2 rfl) rfl
          subst hr8
          clear hy hcc hyi htk hcs hdup
          go_wp2_with (first | (at_lookup; refine wpList_lookI (by rfl) _ _ 74 9 3 rfl keyStr Try.underlying74 zeroInt HM.out y.f0 rfl rfl 1 HCN.out ?_))
          go_ret
          exact ⟨rfl, below_step HB4.out HB.out⟩
        · have HCN := Lib.hid ((HMS.out y.f0).2 hdup)
          have HDUP := Lib.hid hdup
          clear hy hcc hyi htk hcs hdup
          go_upto_region 13 with (first
            | (at_lookup; refine wpList_lookI (by rfl) _ _ 74 9 3 rfl keyStr Try.underlying74 zeroInt HM.out y.f0 rfl rfl 0 HCN.out ?_)
            | (at_mapUpdate; refine wpList_upd (by rfl) _ _ _ 74 9 3 rfl keyStr Try.underlying74 HM.out y.f0 1 rfl rfl rfl ?_; intro w5 hm5 hg5; have HM5 := Lib.hid hm5; have HB5 := Lib.hid (HB.out.grown hg5 HB.out.size (fun j hj => by cases hj; exact Nat.le_of_eq HMB.out)); clear hm5 hg5))
          rw [put_no_]
          have HMS5 := Lib.hid (show metS ((x.f0.take (i + 1)).map (fun y => y.f0)) (setL m y.f0 1) by rw [HTK.out, List.map_append]; exact metS_next HMS.out y.f0)
          have HND5 := Lib.hid (show ((x.f0.take (i + 1)).map (fun y => y.f0)).Nodup by
            rw [HTK.out, List.map_append]
            refine List.nodup_append.2 ⟨HND.out, by simp, fun a ha b hb e => ?_⟩
            have hb2 : b = y.f0 := List.mem_singleton.1 hb
            exact HDUP.out (by rw [← hb2, ← e]; exact ha))
          clear HM HB HMS HND HDUP hc0 hcn
          have HAL := Lib.hid (show (ok0 && (x.f0.take (i + 1)).all poolOk) = ((ok0 && (x.f0.take i).all poolOk) && poolOk y) by rw [HTK.out, List.all_append, Bool.and_assoc]; simp)
          obtain ⟨ok1, hok1⟩ : ∃ b, (ok0 && (x.f0.take i).all poolOk) = b := ⟨_, rfl⟩
          rw [hok1] at HAL ⊢
          clear hok1
          have KI := Lib.hid (fun W => is_calls y.f0 W)
          obtain ⟨b1, hb1⟩ : ∃ b, isL (strN y.f0) = b := ⟨_, rfl⟩
          rw [hb1] at KI
          have H1 := Lib.hid hb1
          clear hb1
          obtain ⟨b2, hb2⟩ : ∃ b, fineL (poolF a0 y) = b := ⟨_, rfl⟩
          have H2 := Lib.hid hb2
          clear hb2
          have HPK := Lib.hid (show poolOk y = (b1 && b2) by unfold poolOk; rw [H1.out, H2.out])
          have hcn := HCS.out _ HB5.out
          have HPC := Lib.hid (fun W (hW : Below wc.heap.size wc W) => poolF_in (y := y) (fun j v hv => cap_keep (HCC.out j v hv) hW))
          cases ok1 with
          | false =>
            go_wp2_with (fail)
            go_roundg (n0 - (i + 1))
            case measure => omega
            case rel => exact ⟨i + 1, setL m y.f0 1, by omega, by omega, by go_num, by rw [HAL.out]; rfl, HND5, HMS5, Lib.hid (HM5.out.later (Below.refl _ _)), Lib.hid (below_step HB5.out (Below.refl _ _))⟩
          | true =>
            cases b1 with
            | false =>
              go_wp2_with (first | (go_at_call 43; refine (KI.out _).mono ?_; rintro e w6 ⟨rfl, hb6⟩; have HB6 := Lib.hid hb6; clear hb6))
              go_roundg (n0 - (i + 1))
              case measure => omega
              case rel => exact ⟨i + 1, setL m y.f0 1, by omega, by omega, by go_num, by rw [HAL.out, HPK.out]; rfl, HND5, HMS5, Lib.hid (HM5.out.later HB6.out), Lib.hid (below_step HB5.out HB6.out)⟩
            | true =>
              go_wp2_with (first
                | (go_at_call 43; refine (KI.out _).mono ?_; rintro e w6 ⟨rfl, hb6⟩; have HB6 := Lib.hid hb6; clear hb6)
                | (go_at_call 44; refine (pool_mk (ad.add (i * 4)) (truthI y.f1) y.f2 y.f3 _).mono ?_; rintro e w7 ⟨A7, c7, l7, rfl, hC7, hb7, hx7, hm7, _⟩; have KF := Lib.hid (fine_of (c := c7) hC7 hx7 hm7 (HPC.out _ (below_step (below_step HB5.out HB6.out) hb7))); have HKF := Lib.hid (pool_same (ad.add (i * 4)) y); unfold poolF at HKF; rw [HKF.out] at KF; have H3 := Lib.hid H2.out; unfold poolF at H3; rw [H3.out] at KF; have HB7 := Lib.hid (below_step HB6.out hb7); clear hC7 hb7 hx7 hm7)
                | (go_at_call 41; refine KF.out.mono ?_; rintro e w8 ⟨rfl, hb8⟩; have HB8 := Lib.hid (below_step HB7.out hb8); clear hb8))
              go_roundg (n0 - (i + 1))
              case measure => omega
              case rel => exact ⟨i + 1, setL m y.f0 1, by omega, by omega, by go_num, by rw [HAL.out, HPK.out]; rfl, HND5, HMS5, Lib.hid (HM5.out.later HB8.out), Lib.hid (below_step HB5.out HB8.out)⟩
      · have hin : i = n0 := by omega
        subst hin
        have HNA := Lib.hid (show (x.f0.map (fun y => y.f0)).Nodup by have h := HND.out; rwa [List.take_of_length_le (Nat.le_of_eq HN.out.1)] at h)
        have hta : x.f0.take i = x.f0 := List.take_of_length_le (Nat.le_of_eq HN.out.1)
        rw [hta]
        obtain ⟨ok1, hok1⟩ : ∃ b, (ok0 && x.f0.all poolOk) = b := ⟨_, rfl⟩
        rw [hok1]
        have HOK1 := Lib.hid hok1
        have HG5 := Lib.hid (blk_call HB.out HG4.out)
        have HB5 := Lib.hid (below_step HB4.out HB.out)
        have HE18 := Lib.hid (Kd.C_below HD18.out HB.out)
        have HE19 := Lib.hid (Kd.C_below HD19.out HB.out)
        have hc18 := blk_cellk (v := .slice P18 n18 q18) HG5.out 18 rfl
        clear HND HMS HM HB HD18 HD19 HG4 HB4 hta hok1
        obtain ⟨wA, hwA⟩ : ∃ wA, wA = wr := ⟨_, rfl⟩
        subst hwA
        go_wp2_with (fail)
        clear hc18
        go_loopg [3, 84] n18 (fun gg v3 v84 wq => ∃ (j : Nat), j ≤ n18 ∧ n18 - j ≤ gg ∧ v84 = .int .i64 j ∧ v3 = .bool (ok1 && bandsOk x.f18 j) ∧ Hid (Below wA.heap.size wA wq))
        case atStart => exact ⟨0, Nat.zero_le _, by omega, rfl, by simp [bandsOk], Lib.hid (Below.refl _ _)⟩
        case round =>
          obtain ⟨j, hj, hgj, rfl, rfl, HB⟩ := hrel
          by_cases hlt : j < n18
          · have hltz : (j : Int) < (n18 : Int) := by omega
            have w1e : IntKind.i64.wrap ((j : Int) + 1) = (j : Int) + 1 := by rw [IntKind.wrap_i64]; have := HLM.out.2.1; omega
            obtain ⟨ad, ea, hcc⟩ := kBand_C HE18.out j hlt
            subst ea
            have HST := Lib.hid (show bandsOk x.f18 (j + 1) = (bandsOk x.f18 j && bandAt x.f18 j) by unfold bandsOk; rw [List.range_succ, List.all_append]; simp)
            have hlz : x.f18[j]? = some (x.f18.getD j z39) := by rw [List.getD_eq_getElem?_getD, List.getElem?_eq_getElem (by rw [HN.out.2.1]; exact hlt)]; rfl
            obtain ⟨y, hy⟩ : ∃ y, x.f18.getD j z39 = y := ⟨_, rfl⟩
            rw [hy] at hcc
            have HY := Lib.hid hy
            have HCC := Lib.hid hcc
            clear hlz hy hcc
            obtain ⟨ok2, hok2⟩ : ∃ b, (ok1 && bandsOk x.f18 j) = b := ⟨_, rfl⟩
            have HST2 := Lib.hid (show (ok1 && bandsOk x.f18 (j + 1)) = (ok2 && bandAt x.f18 j) by rw [HST.out, ← hok2, Bool.and_assoc])
            rw [hok2]
            clear hok2 HST
            obtain ⟨b2, hb2⟩ : ∃ b, fineL (bandF a0 y) = b := ⟨_, rfl⟩
            have H2 := Lib.hid hb2
            clear hb2
            have HBA := Lib.hid (show bandAt x.f18 j = (b2 && (decide (j = 0) || decide ((x.f18.getD (j - 1) z39).f0 < y.f0))) by unfold bandAt; rw [HY.out, H2.out])
            have HBa := Lib.hid (below_step HB.out (below_drew (Below.refl _ _)))
            have KBn := Lib.hid (fun W => band_mk (ad.add (j * 2)) y.f0 y.f1 W)
            have HPC := Lib.hid (fun W (hW : Below wA.heap.size wA W) => bandF_in (y := y) (fun j v hv => cap_keep (HCC.out j v hv) hW))
            have HSL := Lib.hid (fun W (hW : Below wA.heap.size wA W) => blk_cellk (v := .slice (some ad) n18 q18) (blk_call hW HG5.out) 18 rfl)
            have hidx : (j : Int).toNat = j := Int.toNat_natCast j
            cases ok2 with
            | false =>
              go_upto_region 18 with (fail)
              · skip
                refine start_ (n := 30) (S := fun w' => True) (ds := []) #[false, false, false, false, false, false, false, false, false, false, false, false, false, false, false, false, false, false, false, false, false, false, false, false, false, false, false, false, false, false] (by kernel_rfl) rfl rfl trivial (fun hHeld => ?_)
                generalize wr.drew = Wa at HBa hHeld ⊢
                refine pure_ (i := 0) (N := some 87) (v := ?_) (a' := ?_) #[true, false, false, false, false, false, false, false, false, false, false, false, false, false, false, false, false, false, false, false, false, false, false, false, false, false, false, false, false, false] rfl rfl (by kernel_rfl) (fun _ _ _ h => h) (Or.inl ⟨by rfl, ?_⟩) ?_ ?_
                rotate_left
                · intro w'
                  go_simp
                  with_reducible rfl
                rotate_left
                · simp only [Act.put, List.setIfInBounds_toArray, List.set_cons_zero, List.set_cons_succ, i64_w, i32_w]
                  rfl
                refine pure_ (i := 1) (N := some 88) (v := ?_) (a' := ?_) #[true, true, false, false, false, false, false, false, false, false, false, false, false, false, false, false, false, false, false, false, false, false, false, false, false, false, false, false, false, false] rfl rfl (by kernel_rfl) (fun _ _ _ h => h) (Or.inl ⟨by rfl, ?_⟩) ?_ ?_
                rotate_left
                · intro w'
                  go_simp
                  with_reducible rfl
                rotate_left
                · simp only [Act.put, List.setIfInBounds_toArray, List.set_cons_zero, List.set_cons_succ, i64_w, i32_w]
                  rfl
                refine pure_ (i := 2) (N := some 89) (v := undef) (a' := ?_) #[true, true, true, false, false, false, false, false, false, false, false, false, false, false, false, false, false, false, false, false, false, false, false, false, false, false, false, false, false, false] rfl rfl (by kernel_rfl) (fun _ _ _ h => h) (Or.inr ⟨by rfl, rfl⟩) ?_ ?_
                rotate_left
                · simp only [Act.put, List.setIfInBounds_toArray, List.set_cons_zero, List.set_cons_succ, i64_w, i32_w]
                  rfl
                refine pure_ (i := 3) (N := some 90) (v := undef) (a' := ?_) #[true, true, true, true, false, false, false, false, false, false, false, false, false, false, false, false, false, false, false, false, false, false, false, false, false, false, false, false, false, false] rfl rfl (by kernel_rfl) (fun _ _ _ h => h) (Or.inr ⟨by rfl, rfl⟩) ?_ ?_
                rotate_left
                · simp only [Act.put, List.setIfInBounds_toArray, List.set_cons_zero, List.set_cons_succ, i64_w, i32_w]
                  rfl
                refine pure_ (i := 4) (N := some 91) (v := undef) (a' := ?_) #[true, true, true, true, true, false, false, false, false, false, false, false, false, false, false, false, false, false, false, false, false, false, false, false, false, false, false, false, false, false] rfl rfl (by kernel_rfl) (fun _ _ _ h => h) (Or.inr ⟨by rfl, rfl⟩) ?_ ?_
                rotate_left
                · simp only [Act.put, List.setIfInBounds_toArray, List.set_cons_zero, List.set_cons_succ, i64_w, i32_w]
                  rfl
                refine pure_ (i := 5) (N := some 92) (v := undef) (a' := ?_) #[true, true, true, true, true, true, false, false, false, false, false, false, false, false, false, false, false, false, false, false, false, false, false, false, false, false, false, false, false, false] rfl rfl (by kernel_rfl) (fun _ _ _ h => h) (Or.inr ⟨by rfl, rfl⟩) ?_ ?_
                rotate_left
                · simp only [Act.put, List.setIfInBounds_toArray, List.set_cons_zero, List.set_cons_succ, i64_w, i32_w]
                  rfl
                refine pure_ (i := 6) (N := some 93) (v := undef) (a' := ?_) #[true, true, true, true, true, true, true, false, false, false, false, false, false, false, false, false, false, false, false, false, false, false, false, false, false, false, false, false, false, false] rfl rfl (by kernel_rfl) (fun _ _ _ h => h) (Or.inr ⟨by rfl, rfl⟩) ?_ ?_
                rotate_left
                · simp only [Act.put, List.setIfInBounds_toArray, List.set_cons_zero, List.set_cons_succ, i64_w, i32_w]
                  rfl
                refine pure_ (i := 7) (N := some 94) (v := undef) (a' := ?_) #[true, true, true, true, true, true, true, true, false, false, false, false, false, false, false, false, false, false, false, false, false, false, false, false, false, false, false, false, false, false] rfl rfl (by kernel_rfl) (fun _ _ _ h => h) (Or.inr ⟨by rfl, rfl⟩) ?_ ?_
                rotate_left
                · simp only [Act.put, List.setIfInBounds_toArray, List.set_cons_zero, List.set_cons_succ, i64_w, i32_w]
                  rfl
                refine pure_ (i := 8) (N := some 95) (v := ?_) (a' := ?_) #[true, true, true, true, true, true, true, true, true, false, false, false, false, false, false, false, false, false, false, false, false, false, false, false, false, false, false, false, false, false] rfl rfl (by kernel_rfl) (fun _ _ _ h => h) (Or.inl ⟨by rfl, ?_⟩) ?_ ?_
                rotate_left
                · intro w'
                  go_simp
                  with_reducible rfl
                rotate_left
                · simp only [Act.put, List.setIfInBounds_toArray, List.set_cons_zero, List.set_cons_succ, i64_w, i32_w]
                  rfl
                refine pure_ (i := 9) (N := some 96) (v := ?_) (a' := ?_) #[true, true, true, true, true, true, true, true, true, true, false, false, false, false, false, false, false, false, false, false, false, false, false, false, false, false, false, false, false, false] rfl rfl (by kernel_rfl) (fun _ _ _ h => h) (Or.inl ⟨by rfl, ?_⟩) ?_ ?_
                rotate_left
                · intro w'
                  go_simp
                  with_reducible rfl
                rotate_left
                · simp only [Act.put, List.setIfInBounds_toArray, List.set_cons_zero, List.set_cons_succ, i64_w, i32_w]
                  rfl
                refine pure_ (i := 10) (N := some 97) (v := undef) (a' := ?_) #[true, true, true, true, true, true, true, true, true, true, true, false, false, false, false, false, false, false, false, false, false, false, false, false, false, false, false, false, false, false] rfl rfl (by kernel_rfl) (fun _ _ _ h => h) (Or.inr ⟨by rfl, rfl⟩) ?_ ?_
                rotate_left
                · simp only [Act.put, List.setIfInBounds_toArray, List.set_cons_zero, List.set_cons_succ, i64_w, i32_w]
                  rfl
                refine pure_ (i := 11) (N := some 98) (v := undef) (a' := ?_) #[true, true, true, true, true, true, true, true, true, true, true, true, false, false, false, false, false, false, false, false, false, false, false, false, false, false, false, false, false, false] rfl rfl (by kernel_rfl) (fun _ _ _ h => h) (Or.inr ⟨by rfl, rfl⟩) ?_ ?_
                rotate_left
                · simp only [Act.put, List.setIfInBounds_toArray, List.set_cons_zero, List.set_cons_succ, i64_w, i32_w]
                  rfl
                refine pure_ (i := 12) (N := some 99) (v := undef) (a' := ?_) #[true, true, true, true, true, true, true, true, true, true, true, true, true, false, false, false, false, false, false, false, false, false, false, false, false, false, false, false, false, false] rfl rfl (by kernel_rfl) (fun _ _ _ h => h) (Or.inr ⟨by rfl, rfl⟩) ?_ ?_
                rotate_left
                · simp only [Act.put, List.setIfInBounds_toArray, List.set_cons_zero, List.set_cons_succ, i64_w, i32_w]
                  rfl
                refine pure_ (i := 13) (N := some 100) (v := undef) (a' := ?_) #[true, true, true, true, true, true, true, true, true, true, true, true, true, true, false, false, false, false, false, false, false, false, false, false, false, false, false, false, false, false] rfl rfl (by kernel_rfl) (fun _ _ _ h => h) (Or.inr ⟨by rfl, rfl⟩) ?_ ?_
                rotate_left
                · simp only [Act.put, List.setIfInBounds_toArray, List.set_cons_zero, List.set_cons_succ, i64_w, i32_w]
                  rfl
                refine pure_ (i := 14) (N := some 101) (v := undef) (a' := ?_) #[true, true, true, true, true, true, true, true, true, true, true, true, true, true, true, false, false, false, false, false, false, false, false, false, false, false, false, false, false, false] rfl rfl (by kernel_rfl) (fun _ _ _ h => h) (Or.inr ⟨by rfl, rfl⟩) ?_ ?_
                rotate_left
                · simp only [Act.put, List.setIfInBounds_toArray, List.set_cons_zero, List.set_cons_succ, i64_w, i32_w]
                  rfl
                refine pure_ (i := 15) (N := some 102) (v := undef) (a' := ?_) #[true, true, true, true, true, true, true, true, true, true, true, true, true, true, true, true, false, false, false, false, false, false, false, false, false, false, false, false, false, false] rfl rfl (by kernel_rfl) (fun _ _ _ h => h) (Or.inr ⟨by rfl, rfl⟩) ?_ ?_
                rotate_left
                · simp only [Act.put, List.setIfInBounds_toArray, List.set_cons_zero, List.set_cons_succ, i64_w, i32_w]
                  rfl
                refine pure_ (i := 16) (N := some 103) (v := undef) (a' := ?_) #[true, true, true, true, true, true, true, true, true, true, true, true, true, true, true, true, true, false, false, false, false, false, false, false, false, false, false, false, false, false] rfl rfl (by kernel_rfl) (fun _ _ _ h => h) (Or.inr ⟨by rfl, rfl⟩) ?_ ?_
                rotate_left
                · simp only [Act.put, List.setIfInBounds_toArray, List.set_cons_zero, List.set_cons_succ, i64_w, i32_w]
                  rfl
                refine pure_ (i := 17) (N := some 104) (v := undef) (a' := ?_) #[true, true, true, true, true, true, true, true, true, true, true, true, true, true, true, true, true, true, false, false, false, false, false, false, false, false, false, false, false, false] rfl rfl (by kernel_rfl) (fun _ _ _ h => h) (Or.inr ⟨by rfl, rfl⟩) ?_ ?_
                rotate_left
                · simp only [Act.put, List.setIfInBounds_toArray, List.set_cons_zero, List.set_cons_succ, i64_w, i32_w]
                  rfl
                refine pure_ (i := 18) (N := some 105) (v := undef) (a' := ?_) #[true, true, true, true, true, true, true, true, true, true, true, true, true, true, true, true, true, true, true, false, false, false, false, false, false, false, false, false, false, false] rfl rfl (by kernel_rfl) (fun _ _ _ h => h) (Or.inr ⟨by rfl, rfl⟩) ?_ ?_
                rotate_left
                · simp only [Act.put, List.setIfInBounds_toArray, List.set_cons_zero, List.set_cons_succ, i64_w, i32_w]
                  rfl
                refine pure_ (i := 19) (N := some 106) (v := undef) (a' := ?_) #[true, true, true, true, true, true, true, true, true, true, true, true, true, true, true, true, true, true, true, true, false, false, false, false, false, false, false, false, false, false] rfl rfl (by kernel_rfl) (fun _ _ _ h => h) (Or.inr ⟨by rfl, rfl⟩) ?_ ?_
                rotate_left
                · simp only [Act.put, List.setIfInBounds_toArray, List.set_cons_zero, List.set_cons_succ, i64_w, i32_w]
                  rfl
                refine pure_ (i := 20) (N := some 107) (v := undef) (a' := ?_) #[true, true, true, true, true, true, true, true, true, true, true, true, true, true, true, true, true, true, true, true, true, false, false, false, false, false, false, false, false, false] rfl rfl (by kernel_rfl) (fun _ _ _ h => h) (Or.inr ⟨by rfl, rfl⟩) ?_ ?_
                rotate_left
                · simp only [Act.put, List.setIfInBounds_toArray, List.set_cons_zero, List.set_cons_succ, i64_w, i32_w]
                  rfl
                refine pure_ (i := 21) (N := some 108) (v := undef) (a' := ?_) #[true, true, true, true, true, true, true, true, true, true, true, true, true, true, true, true, true, true, true, true, true, true, false, false, false, false, false, false, false, false] rfl rfl (by kernel_rfl) (fun _ _ _ h => h) (Or.inr ⟨by rfl, rfl⟩) ?_ ?_
                rotate_left
                · simp only [Act.put, List.setIfInBounds_toArray, List.set_cons_zero, List.set_cons_succ, i64_w, i32_w]
                  rfl
                refine pure_ (i := 22) (N := some 109) (v := undef) (a' := ?_) #[true, true, true, true, true, true, true, true, true, true, true, true, true, true, true, true, true, true, true, true, true, true, true, false, false, false, false, false, false, false] rfl rfl (by kernel_rfl) (fun _ _ _ h => h) (Or.inr ⟨by rfl, rfl⟩) ?_ ?_
                rotate_left
                · simp only [Act.put, List.setIfInBounds_toArray, List.set_cons_zero, List.set_cons_succ, i64_w, i32_w]
                  rfl
                refine pure_ (i := 23) (N := some 110) (v := undef) (a' := ?_) #[true, true, true, true, true, true, true, true, true, true, true, true, true, true, true, true, true, true, true, true, true, true, true, true, false, false, false, false, false, false] rfl rfl (by kernel_rfl) (fun _ _ _ h => h) (Or.inr ⟨by rfl, rfl⟩) ?_ ?_
                rotate_left
                · simp only [Act.put, List.setIfInBounds_toArray, List.set_cons_zero, List.set_cons_succ, i64_w, i32_w]
                  rfl
                refine pure_ (i := 24) (N := some 111) (v := undef) (a' := ?_) #[true, true, true, true, true, true, true, true, true, true, true, true, true, true, true, true, true, true, true, true, true, true, true, true, true, false, false, false, false, false] rfl rfl (by kernel_rfl) (fun _ _ _ h => h) (Or.inr ⟨by rfl, rfl⟩) ?_ ?_
                rotate_left
                · simp only [Act.put, List.setIfInBounds_toArray, List.set_cons_zero, List.set_cons_succ, i64_w, i32_w]
                  rfl
                refine pure_ (i := 25) (N := some 112) (v := undef) (a' := ?_) #[true, true, true, true, true, true, true, true, true, true, true, true, true, true, true, true, true, true, true, true, true, true, true, true, true, true, false, false, false, false] rfl rfl (by kernel_rfl) (fun _ _ _ h => h) (Or.inr ⟨by rfl, rfl⟩) ?_ ?_
                rotate_left
                · simp only [Act.put, List.setIfInBounds_toArray, List.set_cons_zero, List.set_cons_succ, i64_w, i32_w]
                  rfl
                refine pure_ (i := 26) (N := some 113) (v := undef) (a' := ?_) #[true, true, true, true, true, true, true, true, true, true, true, true, true, true, true, true, true, true, true, true, true, true, true, true, true, true, true, false, false, false] rfl rfl (by kernel_rfl) (fun _ _ _ h => h) (Or.inr ⟨by rfl, rfl⟩) ?_ ?_
                rotate_left
                · simp only [Act.put, List.setIfInBounds_toArray, List.set_cons_zero, List.set_cons_succ, i64_w, i32_w]
                  rfl
                refine pure_ (i := 27) (N := some 114) (v := undef) (a' := ?_) #[true, true, true, true, true, true, true, true, true, true, true, true, true, true, true, true, true, true, true, true, true, true, true, true, true, true, true, true, false, false] rfl rfl (by kernel_rfl) (fun _ _ _ h => h) (Or.inr ⟨by rfl, rfl⟩) ?_ ?_
                rotate_left
                · simp only [Act.put, List.setIfInBounds_toArray, List.set_cons_zero, List.set_cons_succ, i64_w, i32_w]
                  rfl
                refine pure_ (i := 28) (N := some 115) (v := ?_) (a' := ?_) #[true, true, true, true, true, true, true, true, true, true, true, true, true, true, true, true, true, true, true, true, true, true, true, true, true, true, true, true, true, false] rfl rfl (by kernel_rfl) (fun _ _ _ h => h) (Or.inl ⟨by rfl, ?_⟩) ?_ ?_
                rotate_left
                · intro w'
                  go_simp
                  with_reducible rfl
                rotate_left
                · simp only [Act.put, List.setIfInBounds_toArray, List.set_cons_zero, List.set_cons_succ, i64_w, i32_w]
                  rfl
                refine pure_ (i := 29) (N := some 3) (v := ?_) (a' := ?_) #[true, true, true, true, true, true, true, true, true, true, true, true, true, true, true, true, true, true, true, true, true, true, true, true, true, true, true, true, true, true] rfl rfl (by kernel_rfl) (fun _ _ _ h => h) (Or.inl ⟨by rfl, ?_⟩) ?_ ?_
                rotate_left
                · intro w'
                  go_simp
                  with_reducible rfl
                rotate_left
                · simp only [Act.put, List.setIfInBounds_toArray, List.set_cons_zero, List.set_cons_succ, i64_w, i32_w]
                  rfl
                refine done_ (by kernel_rfl) ?_
                go_wp2_with (fail)
                go_roundg (n18 - (j + 1))
                case measure => omega
                case rel => exact ⟨j + 1, by omega, by omega, by go_num, by rw [HST2.out]; rfl, HBa⟩
            | true =>
              cases b2 with
              | false =>
                go_upto_region 18 with (fail)
                · skip
                  refine start_ (n := 30) (S := fun w' => w'.cell? ⟨gb, 18, none⟩ = some (.slice (some ad) n18 q18)) (ds := []) #[false, false, false, false, false, false, false, false, false, false, false, false, false, false, false, false, false, false, false, false, false, false, false, false, false, false, false, false, false, false] (by kernel_rfl) rfl rfl (HSL.out _ HBa.out) (fun hHeld => ?_)
                  generalize wr.drew = Wa at HBa hHeld ⊢
                  refine pure_ (i := 0) (N := some 87) (v := ?_) (a' := ?_) #[true, false, false, false, false, false, false, false, false, false, false, false, false, false, false, false, false, false, false, false, false, false, false, false, false, false, false, false, false, false] rfl rfl (by kernel_rfl) (fun _ _ _ h => h) (Or.inl ⟨by rfl, ?_⟩) ?_ ?_
                  rotate_left
                  · intro w'
                    go_simp
                    with_reducible rfl
                  rotate_left
                  · simp only [Act.put, List.setIfInBounds_toArray, List.set_cons_zero, List.set_cons_succ, i64_w, i32_w]
                    rfl
                  refine pure_ (i := 1) (N := some 88) (v := ?_) (a' := ?_) #[true, true, false, false, false, false, false, false, false, false, false, false, false, false, false, false, false, false, false, false, false, false, false, false, false, false, false, false, false, false] rfl rfl (by kernel_rfl) (fun _ _ _ h => h) (Or.inl ⟨by rfl, ?_⟩) ?_ ?_
                  rotate_left
                  · intro w'
                    go_simp
                    with_reducible rfl
                  rotate_left
                  · simp only [Act.put, List.setIfInBounds_toArray, List.set_cons_zero, List.set_cons_succ, i64_w, i32_w]
                    rfl
                  refine pure_ (i := 2) (N := some 89) (v := ?_) (a' := ?_) #[true, true, true, false, false, false, false, false, false, false, false, false, false, false, false, false, false, false, false, false, false, false, false, false, false, false, false, false, false, false] rfl rfl (by kernel_rfl) (fun _ _ _ h => h) (Or.inl ⟨by rfl, ?_⟩) ?_ ?_
                  rotate_left
                  · intro w'
                    go_simp
                    with_reducible rfl
                  rotate_left
                  · simp only [Act.put, List.setIfInBounds_toArray, List.set_cons_zero, List.set_cons_succ, i64_w, i32_w]
                    rfl
                  refine take_ (i := 3) (N := some 90) (v := ?_) (a' := ?_) #[true, true, true, true, false, false, false, false, false, false, false, false, false, false, false, false, false, false, false, false, false, false, false, false, false, false, false, false, false, false] rfl rfl (by kernel_rfl) (fun _ _ _ h => h) (Or.inl ⟨by rfl, ?_⟩) hHeld ?_ ?_
                  rotate_left
                  · rintro w' s0
                    go_simp
                    with_reducible rfl
                  rotate_left
                  · simp only [Act.put, List.setIfInBounds_toArray, List.set_cons_zero, List.set_cons_succ, i64_w, i32_w]
                    rfl
                  refine pure_ (i := 4) (N := some 91) (v := ?_) (a' := ?_) #[true, true, true, true, true, false, false, false, false, false, false, false, false, false, false, false, false, false, false, false, false, false, false, false, false, false, false, false, false, false] rfl rfl (by kernel_rfl) (fun _ _ _ h => h) (Or.inl ⟨by rfl, ?_⟩) ?_ ?_
                  rotate_left
                  · intro w'
                    go_simp
                    with_reducible rfl
                  rotate_left
                  · simp only [Act.put, List.setIfInBounds_toArray, List.set_cons_zero, List.set_cons_succ, i64_w, i32_w]
                    rfl
                  refine pure_ (i := 5) (N := some 92) (v := ?_) (a' := ?_) #[true, true, true, true, true, true, false, false, false, false, false, false, false, false, false, false, false, false, false, false, false, false, false, false, false, false, false, false, false, false] rfl rfl (by kernel_rfl) (fun _ _ _ h => h) (Or.inl ⟨by rfl, ?_⟩) ?_ ?_
                  rotate_left
                  · intro w'
                    go_simp
                    with_reducible rfl
                  rotate_left
                  · simp only [Act.put, List.setIfInBounds_toArray, List.set_cons_zero, List.set_cons_succ, i64_w, i32_w]
                    rfl
                  refine one_ (i := 6) (N := some 93) #[true, true, true, true, true, true, true, false, false, false, false, false, false, false, false, false, false, false, false, false, false, false, false, false, false, false, false, false, false, false] rfl rfl (by kernel_rfl) (by decide) (fun K hK => ?_)
                  refine goes_ Try.func45 (by kernel_rfl) rfl #[.pointer (some (ad.add (j * 2)))] (by rfl) rfl rfl (by (try simp only [List.map_toArray, List.map_cons, List.map_nil]); first | done | rfl) ?_
                  refine (KBn.out _).mono ?_
                  rintro e Wb ⟨A7, c7, l7, rfl, hC7, hb7, hx7, hm7, _⟩
                  have KF := Lib.hid (fine_of (c := c7) hC7 hx7 hm7 (HPC.out _ (below_step HBa.out hb7)))
                  have HKF := Lib.hid (band_same (ad.add (j * 2)) y)
                  unfold bandF at HKF
                  rw [HKF.out] at KF
                  have H3 := Lib.hid H2.out
                  unfold bandF at H3
                  rw [H3.out] at KF
                  have HBb := Lib.hid (below_step HBa.out hb7)
                  clear hC7 hb7 hx7 hm7 H3 HKF
                  refine ⟨_, rfl, ?_⟩
                  refine hK.out _ _ ((HSL.out _ HBb.out)) (fun hHeld => ?_)
                  clear hK K
                  refine norm_ (a' := ?_) ?_ ?_
                  rotate_left
                  · show Act.put _ (some 93) _ = _
                    simp only [Act.put, List.setIfInBounds_toArray, List.set_cons_zero, List.set_cons_succ, i64_w, i32_w]
                    rfl
                  refine one_ (i := 7) (N := some 94) #[true, true, true, true, true, true, true, true, false, false, false, false, false, false, false, false, false, false, false, false, false, false, false, false, false, false, false, false, false, false] rfl rfl (by kernel_rfl) (by decide) (fun K hK => ?_)
                  refine goes_ Try.func41 (by kernel_rfl) rfl #[.slice A7 l7.length c7] (by rfl) rfl rfl (by (try simp only [List.map_toArray, List.map_cons, List.map_nil]); first | done | rfl) ?_
                  refine KF.out.mono ?_
                  rintro e Wc ⟨rfl, hb8⟩
                  have HBc := Lib.hid (below_step HBb.out hb8)
                  clear hb8
                  refine ⟨_, rfl, ?_⟩
                  refine hK.out _ _ ((HSL.out _ HBc.out)) (fun hHeld => ?_)
                  clear hK K
                  refine norm_ (a' := ?_) ?_ ?_
                  rotate_left
                  · show Act.put _ (some 94) _ = _
                    simp only [Act.put, List.setIfInBounds_toArray, List.set_cons_zero, List.set_cons_succ, i64_w, i32_w]
                    rfl
                  refine pure_ (i := 8) (N := some 95) (v := ?_) (a' := ?_) #[true, true, true, true, true, true, true, true, true, false, false, false, false, false, false, false, false, false, false, false, false, false, false, false, false, false, false, false, false, false] rfl rfl (by kernel_rfl) (fun _ _ _ h => h) (Or.inl ⟨by rfl, ?_⟩) ?_ ?_
                  rotate_left
                  · intro w'
                    go_simp
                    with_reducible rfl
                  rotate_left
                  · simp only [Act.put, List.setIfInBounds_toArray, List.set_cons_zero, List.set_cons_succ, i64_w, i32_w]
                    rfl
                  refine pure_ (i := 9) (N := some 96) (v := ?_) (a' := ?_) #[true, true, true, true, true, true, true, true, true, true, false, false, false, false, false, false, false, false, false, false, false, false, false, false, false, false, false, false, false, false] rfl rfl (by kernel_rfl) (fun _ _ _ h => h) (Or.inl ⟨by rfl, ?_⟩) ?_ ?_
                  rotate_left
                  · intro w'
                    go_simp
                    with_reducible rfl
                  rotate_left
                  · simp only [Act.put, List.setIfInBounds_toArray, List.set_cons_zero, List.set_cons_succ, i64_w, i32_w]
                    rfl
                  refine pure_ (i := 10) (N := some 97) (v := undef) (a' := ?_) #[true, true, true, true, true, true, true, true, true, true, true, false, false, false, false, false, false, false, false, false, false, false, false, false, false, false, false, false, false, false] rfl rfl (by kernel_rfl) (fun _ _ _ h => h) (Or.inr ⟨by rfl, rfl⟩) ?_ ?_
                  rotate_left
                  · simp only [Act.put, List.setIfInBounds_toArray, List.set_cons_zero, List.set_cons_succ, i64_w, i32_w]
                    rfl
                  refine pure_ (i := 11) (N := some 98) (v := undef) (a' := ?_) #[true, true, true, true, true, true, true, true, true, true, true, true, false, false, false, false, false, false, false, false, false, false, false, false, false, false, false, false, false, false] rfl rfl (by kernel_rfl) (fun _ _ _ h => h) (Or.inr ⟨by rfl, rfl⟩) ?_ ?_
                  rotate_left
                  · simp only [Act.put, List.setIfInBounds_toArray, List.set_cons_zero, List.set_cons_succ, i64_w, i32_w]
                    rfl
                  refine pure_ (i := 12) (N := some 99) (v := undef) (a' := ?_) #[true, true, true, true, true, true, true, true, true, true, true, true, true, false, false, false, false, false, false, false, false, false, false, false, false, false, false, false, false, false] rfl rfl (by kernel_rfl) (fun _ _ _ h => h) (Or.inr ⟨by rfl, rfl⟩) ?_ ?_
                  rotate_left
                  · simp only [Act.put, List.setIfInBounds_toArray, List.set_cons_zero, List.set_cons_succ, i64_w, i32_w]
                    rfl
                  refine pure_ (i := 13) (N := some 100) (v := undef) (a' := ?_) #[true, true, true, true, true, true, true, true, true, true, true, true, true, true, false, false, false, false, false, false, false, false, false, false, false, false, false, false, false, false] rfl rfl (by kernel_rfl) (fun _ _ _ h => h) (Or.inr ⟨by rfl, rfl⟩) ?_ ?_
                  rotate_left
                  · simp only [Act.put, List.setIfInBounds_toArray, List.set_cons_zero, List.set_cons_succ, i64_w, i32_w]
                    rfl
                  refine pure_ (i := 14) (N := some 101) (v := undef) (a' := ?_) #[true, true, true, true, true, true, true, true, true, true, true, true, true, true, true, false, false, false, false, false, false, false, false, false, false, false, false, false, false, false] rfl rfl (by kernel_rfl) (fun _ _ _ h => h) (Or.inr ⟨by rfl, rfl⟩) ?_ ?_
                  rotate_left
                  · simp only [Act.put, List.setIfInBounds_toArray, List.set_cons_zero, List.set_cons_succ, i64_w, i32_w]
                    rfl
                  refine pure_ (i := 15) (N := some 102) (v := undef) (a' := ?_) #[true, true, true, true, true, true, true, true, true, true, true, true, true, true, true, true, false, false, false, false, false, false, false, false, false, false, false, false, false, false] rfl rfl (by kernel_rfl) (fun _ _ _ h => h) (Or.inr ⟨by rfl, rfl⟩) ?_ ?_
                  rotate_left
                  · simp only [Act.put, List.setIfInBounds_toArray, List.set_cons_zero, List.set_cons_succ, i64_w, i32_w]
                    rfl
                  refine pure_ (i := 16) (N := some 103) (v := undef) (a' := ?_) #[true, true, true, true, true, true, true, true, true, true, true, true, true, true, true, true, true, false, false, false, false, false, false, false, false, false, false, false, false, false] rfl rfl (by kernel_rfl) (fun _ _ _ h => h) (Or.inr ⟨by rfl, rfl⟩) ?_ ?_
                  rotate_left
                  · simp only [Act.put, List.setIfInBounds_toArray, List.set_cons_zero, List.set_cons_succ, i64_w, i32_w]
                    rfl
                  refine pure_ (i := 17) (N := some 104) (v := undef) (a' := ?_) #[true, true, true, true, true, true, true, true, true, true, true, true, true, true, true, true, true, true, false, false, false, false, false, false, false, false, false, false, false, false] rfl rfl (by kernel_rfl) (fun _ _ _ h => h) (Or.inr ⟨by rfl, rfl⟩) ?_ ?_
                  rotate_left
                  · simp only [Act.put, List.setIfInBounds_toArray, List.set_cons_zero, List.set_cons_succ, i64_w, i32_w]
                    rfl
                  refine pure_ (i := 18) (N := some 105) (v := undef) (a' := ?_) #[true, true, true, true, true, true, true, true, true, true, true, true, true, true, true, true, true, true, true, false, false, false, false, false, false, false, false, false, false, false] rfl rfl (by kernel_rfl) (fun _ _ _ h => h) (Or.inr ⟨by rfl, rfl⟩) ?_ ?_
                  rotate_left
                  · simp only [Act.put, List.setIfInBounds_toArray, List.set_cons_zero, List.set_cons_succ, i64_w, i32_w]
                    rfl
                  refine pure_ (i := 19) (N := some 106) (v := undef) (a' := ?_) #[true, true, true, true, true, true, true, true, true, true, true, true, true, true, true, true, true, true, true, true, false, false, false, false, false, false, false, false, false, false] rfl rfl (by kernel_rfl) (fun _ _ _ h => h) (Or.inr ⟨by rfl, rfl⟩) ?_ ?_
                  rotate_left
                  · simp only [Act.put, List.setIfInBounds_toArray, List.set_cons_zero, List.set_cons_succ, i64_w, i32_w]
                    rfl
                  refine pure_ (i := 20) (N := some 107) (v := undef) (a' := ?_) #[true, true, true, true, true, true, true, true, true, true, true, true, true, true, true, true, true, true, true, true, true, false, false, false, false, false, false, false, false, false] rfl rfl (by kernel_rfl) (fun _ _ _ h => h) (Or.inr ⟨by rfl, rfl⟩) ?_ ?_
                  rotate_left
                  · simp only [Act.put, List.setIfInBounds_toArray, List.set_cons_zero, List.set_cons_succ, i64_w, i32_w]
                    rfl
                  refine pure_ (i := 21) (N := some 108) (v := undef) (a' := ?_) #[true, true, true, true, true, true, true, true, true, true, true, true, true, true, true, true, true, true, true, true, true, true, false, false, false, false, false, false, false, false] rfl rfl (by kernel_rfl) (fun _ _ _ h => h) (Or.inr ⟨by rfl, rfl⟩) ?_ ?_
                  rotate_left
                  · simp only [Act.put, List.setIfInBounds_toArray, List.set_cons_zero, List.set_cons_succ, i64_w, i32_w]
                    rfl
                  refine pure_ (i := 22) (N := some 109) (v := undef) (a' := ?_) #[true, true, true, true, true, true, true, true, true, true, true, true, true, true, true, true, true, true, true, true, true, true, true, false, false, false, false, false, false, false] rfl rfl (by kernel_rfl) (fun _ _ _ h => h) (Or.inr ⟨by rfl, rfl⟩) ?_ ?_
                  rotate_left
                  · simp only [Act.put, List.setIfInBounds_toArray, List.set_cons_zero, List.set_cons_succ, i64_w, i32_w]
                    rfl
                  refine pure_ (i := 23) (N := some 110) (v := undef) (a' := ?_) #[true, true, true, true, true, true, true, true, true, true, true, true, true, true, true, true, true, true, true, true, true, true, true, true, false, false, false, false, false, false] rfl rfl (by kernel_rfl) (fun _ _ _ h => h) (Or.inr ⟨by rfl, rfl⟩) ?_ ?_
                  rotate_left
                  · simp only [Act.put, List.setIfInBounds_toArray, List.set_cons_zero, List.set_cons_succ, i64_w, i32_w]
                    rfl
                  refine pure_ (i := 24) (N := some 111) (v := undef) (a' := ?_) #[true, true, true, true, true, true, true, true, true, true, true, true, true, true, true, true, true, true, true, true, true, true, true, true, true, false, false, false, false, false] rfl rfl (by kernel_rfl) (fun _ _ _ h => h) (Or.inr ⟨by rfl, rfl⟩) ?_ ?_
                  rotate_left
                  · simp only [Act.put, List.setIfInBounds_toArray, List.set_cons_zero, List.set_cons_succ, i64_w, i32_w]
                    rfl
                  refine pure_ (i := 25) (N := some 112) (v := undef) (a' := ?_) #[true, true, true, true, true, true, true, true, true, true, true, true, true, true, true, true, true, true, true, true, true, true, true, true, true, true, false, false, false, false] rfl rfl (by kernel_rfl) (fun _ _ _ h => h) (Or.inr ⟨by rfl, rfl⟩) ?_ ?_
                  rotate_left
                  · simp only [Act.put, List.setIfInBounds_toArray, List.set_cons_zero, List.set_cons_succ, i64_w, i32_w]
                    rfl
                  refine pure_ (i := 26) (N := some 113) (v := undef) (a' := ?_) #[true, true, true, true, true, true, true, true, true, true, true, true, true, true, true, true, true, true, true, true, true, true, true, true, true, true, true, false, false, false] rfl rfl (by kernel_rfl) (fun _ _ _ h => h) (Or.inr ⟨by rfl, rfl⟩) ?_ ?_
                  rotate_left
                  · simp only [Act.put, List.setIfInBounds_toArray, List.set_cons_zero, List.set_cons_succ, i64_w, i32_w]
                    rfl
                  refine pure_ (i := 27) (N := some 114) (v := undef) (a' := ?_) #[true, true, true, true, true, true, true, true, true, true, true, true, true, true, true, true, true, true, true, true, true, true, true, true, true, true, true, true, false, false] rfl rfl (by kernel_rfl) (fun _ _ _ h => h) (Or.inr ⟨by rfl, rfl⟩) ?_ ?_
                  rotate_left
                  · simp only [Act.put, List.setIfInBounds_toArray, List.set_cons_zero, List.set_cons_succ, i64_w, i32_w]
                    rfl
                  refine pure_ (i := 28) (N := some 115) (v := ?_) (a' := ?_) #[true, true, true, true, true, true, true, true, true, true, true, true, true, true, true, true, true, true, true, true, true, true, true, true, true, true, true, true, true, false] rfl rfl (by kernel_rfl) (fun _ _ _ h => h) (Or.inl ⟨by rfl, ?_⟩) ?_ ?_
                  rotate_left
                  · intro w'
                    go_simp
                    with_reducible rfl
                  rotate_left
                  · simp only [Act.put, List.setIfInBounds_toArray, List.set_cons_zero, List.set_cons_succ, i64_w, i32_w]
                    rfl
                  refine pure_ (i := 29) (N := some 3) (v := ?_) (a' := ?_) #[true, true, true, true, true, true, true, true, true, true, true, true, true, true, true, true, true, true, true, true, true, true, true, true, true, true, true, true, true, true] rfl rfl (by kernel_rfl) (fun _ _ _ h => h) (Or.inl ⟨by rfl, ?_⟩) ?_ ?_
                  rotate_left
                  · intro w'
                    go_simp
                    with_reducible rfl
                  rotate_left
                  · simp only [Act.put, List.setIfInBounds_toArray, List.set_cons_zero, List.set_cons_succ, i64_w, i32_w]
                    rfl
                  refine done_ (by kernel_rfl) ?_
                  go_wp2_with (fail)
                  go_roundg (n18 - (j + 1))
                  case measure => omega
                  case rel => exact ⟨j + 1, by omega, by omega, by go_num, by rw [HST2.out, HBA.out]; rfl, HBc⟩
              | true =>
                rcases Nat.eq_zero_or_pos j with hj0 | hj0
                · subst hj0
                  go_upto_region 18 with (fail)
                  · skip
                    refine start_ (n := 30) (S := fun w' => w'.cell? ⟨gb, 18, none⟩ = some (.slice (some ad) n18 q18)) (ds := []) #[false, false, false, false, false, false, false, false, false, false, false, false, false, false, false, false, false, false, false, false, false, false, false, false, false, false, false, false, false, false] (by kernel_rfl) rfl rfl (HSL.out _ HBa.out) (fun hHeld => ?_)
                    generalize wr.drew = Wa at HBa hHeld ⊢
                    refine pure_ (i := 0) (N := some 87) (v := ?_) (a' := ?_) #[true, false, false, false, false, false, false, false, false, false, false, false, false, false, false, false, false, false, false, false, false, false, false, false, false, false, false, false, false, false] rfl rfl (by kernel_rfl) (fun _ _ _ h => h) (Or.inl ⟨by rfl, ?_⟩) ?_ ?_
                    rotate_left
                    · intro w'
                      go_simp
                      with_reducible rfl
                    rotate_left
                    · simp only [Act.put, List.setIfInBounds_toArray, List.set_cons_zero, List.set_cons_succ, i64_w, i32_w]
                      rfl
                    refine pure_ (i := 1) (N := some 88) (v := ?_) (a' := ?_) #[true, true, false, false, false, false, false, false, false, false, false, false, false, false, false, false, false, false, false, false, false, false, false, false, false, false, false, false, false, false] rfl rfl (by kernel_rfl) (fun _ _ _ h => h) (Or.inl ⟨by rfl, ?_⟩) ?_ ?_
                    rotate_left
                    · intro w'
                      go_simp
                      with_reducible rfl
                    rotate_left
                    · simp only [Act.put, List.setIfInBounds_toArray, List.set_cons_zero, List.set_cons_succ, i64_w, i32_w]
                      rfl
                    refine pure_ (i := 2) (N := some 89) (v := ?_) (a' := ?_) #[true, true, true, false, false, false, false, false, false, false, false, false, false, false, false, false, false, false, false, false, false, false, false, false, false, false, false, false, false, false] rfl rfl (by kernel_rfl) (fun _ _ _ h => h) (Or.inl ⟨by rfl, ?_⟩) ?_ ?_
                    rotate_left
                    · intro w'
                      go_simp
                      with_reducible rfl
                    rotate_left
                    · simp only [Act.put, List.setIfInBounds_toArray, List.set_cons_zero, List.set_cons_succ, i64_w, i32_w]
                      rfl
                    refine take_ (i := 3) (N := some 90) (v := ?_) (a' := ?_) #[true, true, true, true, false, false, false, false, false, false, false, false, false, false, false, false, false, false, false, false, false, false, false, false, false, false, false, false, false, false] rfl rfl (by kernel_rfl) (fun _ _ _ h => h) (Or.inl ⟨by rfl, ?_⟩) hHeld ?_ ?_
                    rotate_left
                    · rintro w' s0
                      go_simp
                      with_reducible rfl
                    rotate_left
                    · simp only [Act.put, List.setIfInBounds_toArray, List.set_cons_zero, List.set_cons_succ, i64_w, i32_w]
                      rfl
                    refine pure_ (i := 4) (N := some 91) (v := ?_) (a' := ?_) #[true, true, true, true, true, false, false, false, false, false, false, false, false, false, false, false, false, false, false, false, false, false, false, false, false, false, false, false, false, false] rfl rfl (by kernel_rfl) (fun _ _ _ h => h) (Or.inl ⟨by rfl, ?_⟩) ?_ ?_
                    rotate_left
                    · intro w'
                      go_simp
                      with_reducible rfl
                    rotate_left
                    · simp only [Act.put, List.setIfInBounds_toArray, List.set_cons_zero, List.set_cons_succ, i64_w, i32_w]
                      rfl
                    refine pure_ (i := 5) (N := some 92) (v := ?_) (a' := ?_) #[true, true, true, true, true, true, false, false, false, false, false, false, false, false, false, false, false, false, false, false, false, false, false, false, false, false, false, false, false, false] rfl rfl (by kernel_rfl) (fun _ _ _ h => h) (Or.inl ⟨by rfl, ?_⟩) ?_ ?_
                    rotate_left
                    · intro w'
                      go_simp
                      with_reducible rfl
                    rotate_left
                    · simp only [Act.put, List.setIfInBounds_toArray, List.set_cons_zero, List.set_cons_succ, i64_w, i32_w]
                      rfl
                    refine one_ (i := 6) (N := some 93) #[true, true, true, true, true, true, true, false, false, false, false, false, false, false, false, false, false, false, false, false, false, false, false, false, false, false, false, false, false, false] rfl rfl (by kernel_rfl) (by decide) (fun K hK => ?_)
                    refine goes_ Try.func45 (by kernel_rfl) rfl #[.pointer (some (ad.add (0 * 2)))] (by rfl) rfl rfl (by (try simp only [List.map_toArray, List.map_cons, List.map_nil]); first | done | rfl) ?_
                    refine (KBn.out _).mono ?_
                    rintro e Wb ⟨A7, c7, l7, rfl, hC7, hb7, hx7, hm7, _⟩
                    have KF := Lib.hid (fine_of (c := c7) hC7 hx7 hm7 (HPC.out _ (below_step HBa.out hb7)))
                    have HKF := Lib.hid (band_same (ad.add (0 * 2)) y)
                    unfold bandF at HKF
                    rw [HKF.out] at KF
                    have H3 := Lib.hid H2.out
                    unfold bandF at H3
                    rw [H3.out] at KF
                    have HBb := Lib.hid (below_step HBa.out hb7)
                    clear hC7 hb7 hx7 hm7 H3 HKF
                    refine ⟨_, rfl, ?_⟩
                    refine hK.out _ _ ((HSL.out _ HBb.out)) (fun hHeld => ?_)
                    clear hK K
                    refine norm_ (a' := ?_) ?_ ?_
                    rotate_left
                    · show Act.put _ (some 93) _ = _
                      simp only [Act.put, List.setIfInBounds_toArray, List.set_cons_zero, List.set_cons_succ, i64_w, i32_w]
                      rfl
                    refine one_ (i := 7) (N := some 94) #[true, true, true, true, true, true, true, true, false, false, false, false, false, false, false, false, false, false, false, false, false, false, false, false, false, false, false, false, false, false] rfl rfl (by kernel_rfl) (by decide) (fun K hK => ?_)
                    refine goes_ Try.func41 (by kernel_rfl) rfl #[.slice A7 l7.length c7] (by rfl) rfl rfl (by (try simp only [List.map_toArray, List.map_cons, List.map_nil]); first | done | rfl) ?_
                    refine KF.out.mono ?_
                    rintro e Wc ⟨rfl, hb8⟩
                    have HBc := Lib.hid (below_step HBb.out hb8)
                    clear hb8
                    refine ⟨_, rfl, ?_⟩
                    refine hK.out _ _ ((HSL.out _ HBc.out)) (fun hHeld => ?_)
                    clear hK K
                    refine norm_ (a' := ?_) ?_ ?_
                    rotate_left
                    · show Act.put _ (some 94) _ = _
                      simp only [Act.put, List.setIfInBounds_toArray, List.set_cons_zero, List.set_cons_succ, i64_w, i32_w]
                      rfl
                    refine pure_ (i := 8) (N := some 95) (v := ?_) (a' := ?_) #[true, true, true, true, true, true, true, true, true, false, false, false, false, false, false, false, false, false, false, false, false, false, false, false, false, false, false, false, false, false] rfl rfl (by kernel_rfl) (fun _ _ _ h => h) (Or.inl ⟨by rfl, ?_⟩) ?_ ?_
                    rotate_left
                    · intro w'
                      go_simp
                      with_reducible rfl
                    rotate_left
                    · simp only [Act.put, List.setIfInBounds_toArray, List.set_cons_zero, List.set_cons_succ, i64_w, i32_w]
                      rfl
                    refine pure_ (i := 9) (N := some 96) (v := ?_) (a' := ?_) #[true, true, true, true, true, true, true, true, true, true, false, false, false, false, false, false, false, false, false, false, false, false, false, false, false, false, false, false, false, false] rfl rfl (by kernel_rfl) (fun _ _ _ h => h) (Or.inl ⟨by rfl, ?_⟩) ?_ ?_
                    rotate_left
                    · intro w'
                      go_simp
                      with_reducible rfl
                    rotate_left
                    · simp only [Act.put, List.setIfInBounds_toArray, List.set_cons_zero, List.set_cons_succ, i64_w, i32_w]
                      rfl
                    refine pure_ (i := 10) (N := some 97) (v := ?_) (a' := ?_) #[true, true, true, true, true, true, true, true, true, true, true, false, false, false, false, false, false, false, false, false, false, false, false, false, false, false, false, false, false, false] rfl rfl (by kernel_rfl) (fun _ _ _ h => h) (Or.inl ⟨by rfl, ?_⟩) ?_ ?_
                    rotate_left
                    · intro w'
                      go_simp
                      with_reducible rfl
                    rotate_left
                    · simp only [Act.put, List.setIfInBounds_toArray, List.set_cons_zero, List.set_cons_succ, i64_w, i32_w]
                      rfl
                    refine pure_ (i := 11) (N := some 98) (v := ?_) (a' := ?_) #[true, true, true, true, true, true, true, true, true, true, true, true, false, false, false, false, false, false, false, false, false, false, false, false, false, false, false, false, false, false] rfl rfl (by kernel_rfl) (fun _ _ _ h => h) (Or.inl ⟨by rfl, ?_⟩) ?_ ?_
                    rotate_left
                    · intro w'
                      go_simp
                      with_reducible rfl
                    rotate_left
                    · simp only [Act.put, List.setIfInBounds_toArray, List.set_cons_zero, List.set_cons_succ, i64_w, i32_w]
                      rfl
                    refine pure_ (i := 12) (N := some 99) (v := ?_) (a' := ?_) #[true, true, true, true, true, true, true, true, true, true, true, true, true, false, false, false, false, false, false, false, false, false, false, false, false, false, false, false, false, false] rfl rfl (by kernel_rfl) (fun _ _ _ h => h) (Or.inl ⟨by rfl, ?_⟩) ?_ ?_
                    rotate_left
                    · intro w'
                      go_simp
                      with_reducible rfl
                    rotate_left
                    · simp only [Act.put, List.setIfInBounds_toArray, List.set_cons_zero, List.set_cons_succ, i64_w, i32_w]
                      rfl
                    refine pure_ (i := 13) (N := some 100) (v := undef) (a' := ?_) #[true, true, true, true, true, true, true, true, true, true, true, true, true, true, false, false, false, false, false, false, false, false, false, false, false, false, false, false, false, false] rfl rfl (by kernel_rfl) (fun _ _ _ h => h) (Or.inr ⟨by rfl, rfl⟩) ?_ ?_
                    rotate_left
                    · simp only [Act.put, List.setIfInBounds_toArray, List.set_cons_zero, List.set_cons_succ, i64_w, i32_w]
                      rfl
                    refine pure_ (i := 14) (N := some 101) (v := undef) (a' := ?_) #[true, true, true, true, true, true, true, true, true, true, true, true, true, true, true, false, false, false, false, false, false, false, false, false, false, false, false, false, false, false] rfl rfl (by kernel_rfl) (fun _ _ _ h => h) (Or.inr ⟨by rfl, rfl⟩) ?_ ?_
                    rotate_left
                    · simp only [Act.put, List.setIfInBounds_toArray, List.set_cons_zero, List.set_cons_succ, i64_w, i32_w]
                      rfl
                    refine pure_ (i := 15) (N := some 102) (v := undef) (a' := ?_) #[true, true, true, true, true, true, true, true, true, true, true, true, true, true, true, true, false, false, false, false, false, false, false, false, false, false, false, false, false, false] rfl rfl (by kernel_rfl) (fun _ _ _ h => h) (Or.inr ⟨by rfl, rfl⟩) ?_ ?_
                    rotate_left
                    · simp only [Act.put, List.setIfInBounds_toArray, List.set_cons_zero, List.set_cons_succ, i64_w, i32_w]
                      rfl
                    refine pure_ (i := 16) (N := some 103) (v := undef) (a' := ?_) #[true, true, true, true, true, true, true, true, true, true, true, true, true, true, true, true, true, false, false, false, false, false, false, false, false, false, false, false, false, false] rfl rfl (by kernel_rfl) (fun _ _ _ h => h) (Or.inr ⟨by rfl, rfl⟩) ?_ ?_
                    rotate_left
                    · simp only [Act.put, List.setIfInBounds_toArray, List.set_cons_zero, List.set_cons_succ, i64_w, i32_w]
                      rfl
                    refine pure_ (i := 17) (N := some 104) (v := undef) (a' := ?_) #[true, true, true, true, true, true, true, true, true, true, true, true, true, true, true, true, true, true, false, false, false, false, false, false, false, false, false, false, false, false] rfl rfl (by kernel_rfl) (fun _ _ _ h => h) (Or.inr ⟨by rfl, rfl⟩) ?_ ?_
                    rotate_left
                    · simp only [Act.put, List.setIfInBounds_toArray, List.set_cons_zero, List.set_cons_succ, i64_w, i32_w]
                      rfl
                    refine pure_ (i := 18) (N := some 105) (v := undef) (a' := ?_) #[true, true, true, true, true, true, true, true, true, true, true, true, true, true, true, true, true, true, true, false, false, false, false, false, false, false, false, false, false, false] rfl rfl (by kernel_rfl) (fun _ _ _ h => h) (Or.inr ⟨by rfl, rfl⟩) ?_ ?_
                    rotate_left
                    · simp only [Act.put, List.setIfInBounds_toArray, List.set_cons_zero, List.set_cons_succ, i64_w, i32_w]
                      rfl
                    refine pure_ (i := 19) (N := some 106) (v := undef) (a' := ?_) #[true, true, true, true, true, true, true, true, true, true, true, true, true, true, true, true, true, true, true, true, false, false, false, false, false, false, false, false, false, false] rfl rfl (by kernel_rfl) (fun _ _ _ h => h) (Or.inr ⟨by rfl, rfl⟩) ?_ ?_
                    rotate_left
                    · simp only [Act.put, List.setIfInBounds_toArray, List.set_cons_zero, List.set_cons_succ, i64_w, i32_w]
                      rfl
                    refine pure_ (i := 20) (N := some 107) (v := undef) (a' := ?_) #[true, true, true, true, true, true, true, true, true, true, true, true, true, true, true, true, true, true, true, true, true, false, false, false, false, false, false, false, false, false] rfl rfl (by kernel_rfl) (fun _ _ _ h => h) (Or.inr ⟨by rfl, rfl⟩) ?_ ?_
                    rotate_left
                    · simp only [Act.put, List.setIfInBounds_toArray, List.set_cons_zero, List.set_cons_succ, i64_w, i32_w]
                      rfl
                    refine pure_ (i := 21) (N := some 108) (v := undef) (a' := ?_) #[true, true, true, true, true, true, true, true, true, true, true, true, true, true, true, true, true, true, true, true, true, true, false, false, false, false, false, false, false, false] rfl rfl (by kernel_rfl) (fun _ _ _ h => h) (Or.inr ⟨by rfl, rfl⟩) ?_ ?_
                    rotate_left
                    · simp only [Act.put, List.setIfInBounds_toArray, List.set_cons_zero, List.set_cons_succ, i64_w, i32_w]
                      rfl
                    refine pure_ (i := 22) (N := some 109) (v := undef) (a' := ?_) #[true, true, true, true, true, true, true, true, true, true, true, true, true, true, true, true, true, true, true, true, true, true, true, false, false, false, false, false, false, false] rfl rfl (by kernel_rfl) (fun _ _ _ h => h) (Or.inr ⟨by rfl, rfl⟩) ?_ ?_
                    rotate_left
                    · simp only [Act.put, List.setIfInBounds_toArray, List.set_cons_zero, List.set_cons_succ, i64_w, i32_w]
                      rfl
                    refine pure_ (i := 23) (N := some 110) (v := undef) (a' := ?_) #[true, true, true, true, true, true, true, true, true, true, true, true, true, true, true, true, true, true, true, true, true, true, true, true, false, false, false, false, false, false] rfl rfl (by kernel_rfl) (fun _ _ _ h => h) (Or.inr ⟨by rfl, rfl⟩) ?_ ?_
                    rotate_left
                    · simp only [Act.put, List.setIfInBounds_toArray, List.set_cons_zero, List.set_cons_succ, i64_w, i32_w]
                      rfl
                    refine pure_ (i := 24) (N := some 111) (v := undef) (a' := ?_) #[true, true, true, true, true, true, true, true, true, true, true, true, true, true, true, true, true, true, true, true, true, true, true, true, true, false, false, false, false, false] rfl rfl (by kernel_rfl) (fun _ _ _ h => h) (Or.inr ⟨by rfl, rfl⟩) ?_ ?_
                    rotate_left
                    · simp only [Act.put, List.setIfInBounds_toArray, List.set_cons_zero, List.set_cons_succ, i64_w, i32_w]
                      rfl
                    refine pure_ (i := 25) (N := some 112) (v := undef) (a' := ?_) #[true, true, true, true, true, true, true, true, true, true, true, true, true, true, true, true, true, true, true, true, true, true, true, true, true, true, false, false, false, false] rfl rfl (by kernel_rfl) (fun _ _ _ h => h) (Or.inr ⟨by rfl, rfl⟩) ?_ ?_
                    rotate_left
                    · simp only [Act.put, List.setIfInBounds_toArray, List.set_cons_zero, List.set_cons_succ, i64_w, i32_w]
                      rfl
                    refine pure_ (i := 26) (N := some 113) (v := undef) (a' := ?_) #[true, true, true, true, true, true, true, true, true, true, true, true, true, true, true, true, true, true, true, true, true, true, true, true, true, true, true, false, false, false] rfl rfl (by kernel_rfl) (fun _ _ _ h => h) (Or.inr ⟨by rfl, rfl⟩) ?_ ?_
                    rotate_left
                    · simp only [Act.put, List.setIfInBounds_toArray, List.set_cons_zero, List.set_cons_succ, i64_w, i32_w]
                      rfl
                    refine pure_ (i := 27) (N := some 114) (v := ?_) (a' := ?_) #[true, true, true, true, true, true, true, true, true, true, true, true, true, true, true, true, true, true, true, true, true, true, true, true, true, true, true, true, false, false] rfl rfl (by kernel_rfl) (fun _ _ _ h => h) (Or.inl ⟨by rfl, ?_⟩) ?_ ?_
                    rotate_left
                    · intro w'
                      go_simp
                      with_reducible rfl
                    rotate_left
                    · simp only [Act.put, List.setIfInBounds_toArray, List.set_cons_zero, List.set_cons_succ, i64_w, i32_w]
                      rfl
                    refine pure_ (i := 28) (N := some 115) (v := ?_) (a' := ?_) #[true, true, true, true, true, true, true, true, true, true, true, true, true, true, true, true, true, true, true, true, true, true, true, true, true, true, true, true, true, false] rfl rfl (by kernel_rfl) (fun _ _ _ h => h) (Or.inl ⟨by rfl, ?_⟩) ?_ ?_
                    rotate_left
                    · intro w'
                      go_simp
                      with_reducible rfl
                    rotate_left
                    · simp only [Act.put, List.setIfInBounds_toArray, List.set_cons_zero, List.set_cons_succ, i64_w, i32_w]
                      rfl
                    refine pure_ (i := 29) (N := some 3) (v := ?_) (a' := ?_) #[true, true, true, true, true, true, true, true, true, true, true, true, true, true, true, true, true, true, true, true, true, true, true, true, true, true, true, true, true, true] rfl rfl (by kernel_rfl) (fun _ _ _ h => h) (Or.inl ⟨by rfl, ?_⟩) ?_ ?_
                    rotate_left
                    · intro w'
                      go_simp
                      with_reducible rfl
                    rotate_left
                    · simp only [Act.put, List.setIfInBounds_toArray, List.set_cons_zero, List.set_cons_succ, i64_w, i32_w]
                      rfl
                    refine done_ (by kernel_rfl) ?_
                    go_wp2_with (fail)
                    go_roundg (n18 - (0 + 1))
                    case measure => omega
                    case rel => exact ⟨0 + 1, by omega, by omega, by go_num, by rw [HST2.out, HBA.out]; rfl, HBc⟩
                · obtain ⟨k, rfl⟩ : ∃ k, j = k + 1 := ⟨j - 1, by omega⟩
                  obtain ⟨ad', ea, hcc'⟩ := kBand_C HE18.out k (by omega)
                  cases ea
                  obtain ⟨z, hz⟩ : ∃ z, x.f18.getD k z39 = z := ⟨_, rfl⟩
                  rw [hz] at hcc'
                  have HBA2 := Lib.hid (show bandAt x.f18 (k + 1) = decide (z.f0 < y.f0) by rw [HBA.out, Nat.add_sub_cancel, hz]; simp)
                  have HS1 := Lib.hid (fun W (hW : Below wA.heap.size wA W) => show W.cell? (ad.add (k * 2)) = some (.int .i64 z.f0) by
                    have h := cap_keep (hcc' 0 _ rfl) hW
                    rwa [addr_add0] at h)
                  have HS2 := Lib.hid (fun W (hW : Below wA.heap.size wA W) => show W.cell? (ad.add ((k + 1) * 2)) = some (.int .i64 y.f0) by
                    have h := cap_keep (HCC.out 0 _ rfl) hW
                    rwa [addr_add0] at h)
                  have HK01 := Lib.hid (And.intro (show (0 : Int) ≤ (k : Int) + 1 by omega) (show (k : Int) < (n18 : Int) by omega))
                  have HWK := Lib.hid (show wrap64 (k : Int) = (k : Int) from w64 (by omega) (by have := HLM.out.2.1; omega))
                  have HWK2 := Lib.hid (show wrap64 ((k : Int) + 1 + 1) = (k : Int) + 1 + 1 from w64 (by omega) (by have := HLM.out.2.1; omega))
                  clear hcc' hz
                  go_upto_region 18 with (fail)
                  · skip
                    refine start_ (n := 30) (S := fun w' => w'.cell? ⟨gb, 18, none⟩ = some (.slice (some ad) n18 q18) ∧ w'.cell? (ad.add (k * 2)) = some (.int .i64 z.f0) ∧ w'.cell? (ad.add ((k + 1) * 2)) = some (.int .i64 y.f0)) (ds := []) #[false, false, false, false, false, false, false, false, false, false, false, false, false, false, false, false, false, false, false, false, false, false, false, false, false, false, false, false, false, false] (by kernel_rfl) rfl rfl ⟨(HSL.out _ HBa.out), HS1.out _ HBa.out, HS2.out _ HBa.out⟩ (fun hHeld => ?_)
                    generalize wr.drew = Wa at HBa hHeld ⊢
                    refine pure_ (i := 0) (N := some 87) (v := ?_) (a' := ?_) #[true, false, false, false, false, false, false, false, false, false, false, false, false, false, false, false, false, false, false, false, false, false, false, false, false, false, false, false, false, false] rfl rfl (by kernel_rfl) (fun _ _ _ h => h) (Or.inl ⟨by rfl, ?_⟩) ?_ ?_
                    rotate_left
                    · intro w'
                      go_simp
                      with_reducible rfl
                    rotate_left
                    · simp only [Act.put, List.setIfInBounds_toArray, List.set_cons_zero, List.set_cons_succ, i64_w, i32_w]
                      rfl
                    refine pure_ (i := 1) (N := some 88) (v := ?_) (a' := ?_) #[true, true, false, false, false, false, false, false, false, false, false, false, false, false, false, false, false, false, false, false, false, false, false, false, false, false, false, false, false, false] rfl rfl (by kernel_rfl) (fun _ _ _ h => h) (Or.inl ⟨by rfl, ?_⟩) ?_ ?_
                    rotate_left
                    · intro w'
                      go_simp
                      with_reducible rfl
                    rotate_left
                    · simp only [Act.put, List.setIfInBounds_toArray, List.set_cons_zero, List.set_cons_succ, i64_w, i32_w]
                      rfl
                    refine pure_ (i := 2) (N := some 89) (v := ?_) (a' := ?_) #[true, true, true, false, false, false, false, false, false, false, false, false, false, false, false, false, false, false, false, false, false, false, false, false, false, false, false, false, false, false] rfl rfl (by kernel_rfl) (fun _ _ _ h => h) (Or.inl ⟨by rfl, ?_⟩) ?_ ?_
                    rotate_left
                    · intro w'
                      go_simp
                      with_reducible rfl
                    rotate_left
                    · simp only [Act.put, List.setIfInBounds_toArray, List.set_cons_zero, List.set_cons_succ, i64_w, i32_w]
                      rfl
                    refine take_ (i := 3) (N := some 90) (v := ?_) (a' := ?_) #[true, true, true, true, false, false, false, false, false, false, false, false, false, false, false, false, false, false, false, false, false, false, false, false, false, false, false, false, false, false] rfl rfl (by kernel_rfl) (fun _ _ _ h => h) (Or.inl ⟨by rfl, ?_⟩) hHeld ?_ ?_
                    rotate_left
                    · rintro w' ⟨s0, s1, s2⟩
                      go_simp
                      with_reducible rfl
                    rotate_left
                    · simp only [Act.put, List.setIfInBounds_toArray, List.set_cons_zero, List.set_cons_succ, i64_w, i32_w]
                      rfl
                    refine pure_ (i := 4) (N := some 91) (v := ?_) (a' := ?_) #[true, true, true, true, true, false, false, false, false, false, false, false, false, false, false, false, false, false, false, false, false, false, false, false, false, false, false, false, false, false] rfl rfl (by kernel_rfl) (fun _ _ _ h => h) (Or.inl ⟨by rfl, ?_⟩) ?_ ?_
                    rotate_left
                    · intro w'
                      go_simp
                      with_reducible rfl
                    rotate_left
                    · simp only [Act.put, List.setIfInBounds_toArray, List.set_cons_zero, List.set_cons_succ, i64_w, i32_w]
                      rfl
                    refine pure_ (i := 5) (N := some 92) (v := ?_) (a' := ?_) #[true, true, true, true, true, true, false, false, false, false, false, false, false, false, false, false, false, false, false, false, false, false, false, false, false, false, false, false, false, false] rfl rfl (by kernel_rfl) (fun _ _ _ h => h) (Or.inl ⟨by rfl, ?_⟩) ?_ ?_
                    rotate_left
                    · intro w'
                      have hk0 := HK01.out.1
                      go_simp
                      with_reducible rfl
                    rotate_left
                    · simp only [Act.put, List.setIfInBounds_toArray, List.set_cons_zero, List.set_cons_succ, i64_w, i32_w]
                      rfl
                    refine one_ (i := 6) (N := some 93) #[true, true, true, true, true, true, true, false, false, false, false, false, false, false, false, false, false, false, false, false, false, false, false, false, false, false, false, false, false, false] rfl rfl (by kernel_rfl) (by decide) (fun K hK => ?_)
                    refine goes_ Try.func45 (by kernel_rfl) rfl #[.pointer (some (ad.add ((k + 1) * 2)))] (by rfl) rfl rfl (by (try simp only [List.map_toArray, List.map_cons, List.map_nil]); first | done | rfl) ?_
                    refine (KBn.out _).mono ?_
                    rintro e Wb ⟨A7, c7, l7, rfl, hC7, hb7, hx7, hm7, _⟩
                    have KF := Lib.hid (fine_of (c := c7) hC7 hx7 hm7 (HPC.out _ (below_step HBa.out hb7)))
                    have HKF := Lib.hid (band_same (ad.add ((k + 1) * 2)) y)
                    unfold bandF at HKF
                    rw [HKF.out] at KF
                    have H3 := Lib.hid H2.out
                    unfold bandF at H3
                    rw [H3.out] at KF
                    have HBb := Lib.hid (below_step HBa.out hb7)
                    clear hC7 hb7 hx7 hm7 H3 HKF
                    refine ⟨_, rfl, ?_⟩
                    refine hK.out _ _ (⟨(HSL.out _ HBb.out), HS1.out _ HBb.out, HS2.out _ HBb.out⟩) (fun hHeld => ?_)
                    clear hK K
                    refine norm_ (a' := ?_) ?_ ?_
                    rotate_left
                    · show Act.put _ (some 93) _ = _
                      simp only [Act.put, List.setIfInBounds_toArray, List.set_cons_zero, List.set_cons_succ, i64_w, i32_w]
                      rfl
                    refine one_ (i := 7) (N := some 94) #[true, true, true, true, true, true, true, true, false, false, false, false, false, false, false, false, false, false, false, false, false, false, false, false, false, false, false, false, false, false] rfl rfl (by kernel_rfl) (by decide) (fun K hK => ?_)
                    refine goes_ Try.func41 (by kernel_rfl) rfl #[.slice A7 l7.length c7] (by rfl) rfl rfl (by (try simp only [List.map_toArray, List.map_cons, List.map_nil]); first | done | rfl) ?_
                    refine KF.out.mono ?_
                    rintro e Wc ⟨rfl, hb8⟩
                    have HBc := Lib.hid (below_step HBb.out hb8)
                    clear hb8
                    refine ⟨_, rfl, ?_⟩
                    refine hK.out _ _ (⟨(HSL.out _ HBc.out), HS1.out _ HBc.out, HS2.out _ HBc.out⟩) (fun hHeld => ?_)
                    clear hK K
                    refine norm_ (a' := ?_) ?_ ?_
                    rotate_left
                    · show Act.put _ (some 94) _ = _
                      simp only [Act.put, List.setIfInBounds_toArray, List.set_cons_zero, List.set_cons_succ, i64_w, i32_w]
                      rfl
                    refine pure_ (i := 8) (N := some 95) (v := ?_) (a' := ?_) #[true, true, true, true, true, true, true, true, true, false, false, false, false, false, false, false, false, false, false, false, false, false, false, false, false, false, false, false, false, false] rfl rfl (by kernel_rfl) (fun _ _ _ h => h) (Or.inl ⟨by rfl, ?_⟩) ?_ ?_
                    rotate_left
                    · intro w'
                      go_simp
                      with_reducible rfl
                    rotate_left
                    · simp only [Act.put, List.setIfInBounds_toArray, List.set_cons_zero, List.set_cons_succ, i64_w, i32_w]
                      rfl
                    refine pure_ (i := 9) (N := some 96) (v := ?_) (a' := ?_) #[true, true, true, true, true, true, true, true, true, true, false, false, false, false, false, false, false, false, false, false, false, false, false, false, false, false, false, false, false, false] rfl rfl (by kernel_rfl) (fun _ _ _ h => h) (Or.inl ⟨by rfl, ?_⟩) ?_ ?_
                    rotate_left
                    · intro w'
                      go_simp
                      with_reducible rfl
                    rotate_left
                    · simp only [Act.put, List.setIfInBounds_toArray, List.set_cons_zero, List.set_cons_succ, i64_w, i32_w]
                      rfl
                    refine pure_ (i := 10) (N := some 97) (v := ?_) (a' := ?_) #[true, true, true, true, true, true, true, true, true, true, true, false, false, false, false, false, false, false, false, false, false, false, false, false, false, false, false, false, false, false] rfl rfl (by kernel_rfl) (fun _ _ _ h => h) (Or.inl ⟨by rfl, ?_⟩) ?_ ?_
                    rotate_left
                    · intro w'
                      go_simp
                      with_reducible rfl
                    rotate_left
                    · simp only [Act.put, List.setIfInBounds_toArray, List.set_cons_zero, List.set_cons_succ, i64_w, i32_w]
                      rfl
                    refine pure_ (i := 11) (N := some 98) (v := ?_) (a' := ?_) #[true, true, true, true, true, true, true, true, true, true, true, true, false, false, false, false, false, false, false, false, false, false, false, false, false, false, false, false, false, false] rfl rfl (by kernel_rfl) (fun _ _ _ h => h) (Or.inl ⟨by rfl, ?_⟩) ?_ ?_
                    rotate_left
                    · intro w'
                      go_simp
                      with_reducible rfl
                    rotate_left
                    · simp only [Act.put, List.setIfInBounds_toArray, List.set_cons_zero, List.set_cons_succ, i64_w, i32_w]
                      rfl
                    refine pure_ (i := 12) (N := some 99) (v := ?_) (a' := ?_) #[true, true, true, true, true, true, true, true, true, true, true, true, true, false, false, false, false, false, false, false, false, false, false, false, false, false, false, false, false, false] rfl rfl (by kernel_rfl) (fun _ _ _ h => h) (Or.inl ⟨by rfl, ?_⟩) ?_ ?_
                    rotate_left
                    · intro w'
                      go_simp
                      with_reducible rfl
                    rotate_left
                    · simp only [Act.put, List.setIfInBounds_toArray, List.set_cons_zero, List.set_cons_succ, i64_w, i32_w]
                      rfl
                    refine pure_ (i := 13) (N := some 100) (v := ?_) (a' := ?_) #[true, true, true, true, true, true, true, true, true, true, true, true, true, true, false, false, false, false, false, false, false, false, false, false, false, false, false, false, false, false] rfl rfl (by kernel_rfl) (fun _ _ _ h => h) (Or.inl ⟨by rfl, ?_⟩) ?_ ?_
                    rotate_left
                    · intro w'
                      go_simp
                      with_reducible rfl
                    rotate_left
                    · simp only [Act.put, List.setIfInBounds_toArray, List.set_cons_zero, List.set_cons_succ, i64_w, i32_w]
                      rfl
                    refine take_ (i := 14) (N := some 101) (v := ?_) (a' := ?_) #[true, true, true, true, true, true, true, true, true, true, true, true, true, true, true, false, false, false, false, false, false, false, false, false, false, false, false, false, false, false] rfl rfl (by kernel_rfl) (fun _ _ _ h => h) (Or.inl ⟨by rfl, ?_⟩) hHeld ?_ ?_
                    rotate_left
                    · rintro w' ⟨s0, s1, s2⟩
                      go_simp
                      with_reducible rfl
                    rotate_left
                    · simp only [Act.put, List.setIfInBounds_toArray, List.set_cons_zero, List.set_cons_succ, i64_w, i32_w]
                      rfl
                    refine pure_ (i := 15) (N := some 102) (v := ?_) (a' := ?_) #[true, true, true, true, true, true, true, true, true, true, true, true, true, true, true, true, false, false, false, false, false, false, false, false, false, false, false, false, false, false] rfl rfl (by kernel_rfl) (fun _ _ _ h => h) (Or.inl ⟨by rfl, ?_⟩) ?_ ?_
                    rotate_left
                    · intro w'
                      go_simp
                      with_reducible rfl
                    rotate_left
                    · simp only [Act.put, List.setIfInBounds_toArray, List.set_cons_zero, List.set_cons_succ, i64_w, i32_w]
                      rfl
                    refine pure_ (i := 16) (N := some 103) (v := ?_) (a' := ?_) #[true, true, true, true, true, true, true, true, true, true, true, true, true, true, true, true, true, false, false, false, false, false, false, false, false, false, false, false, false, false] rfl rfl (by kernel_rfl) (fun _ _ _ h => h) (Or.inl ⟨by rfl, ?_⟩) ?_ ?_
                    rotate_left
                    · intro w'
                      have hwk := HWK.out
                      have hk1 := HK01.out.2
                      have hk0 := HK01.out.1
                      go_simp
                      with_reducible rfl
                    rotate_left
                    · simp only [Act.put, List.setIfInBounds_toArray, List.set_cons_zero, List.set_cons_succ, i64_w, i32_w]
                      rfl
                    refine pure_ (i := 17) (N := some 104) (v := ?_) (a' := ?_) #[true, true, true, true, true, true, true, true, true, true, true, true, true, true, true, true, true, true, false, false, false, false, false, false, false, false, false, false, false, false] rfl rfl (by kernel_rfl) (fun _ _ _ h => h) (Or.inl ⟨by rfl, ?_⟩) ?_ ?_
                    rotate_left
                    · intro w'
                      have hwk := HWK.out
                      have hk1 := HK01.out.2
                      have hk0 := HK01.out.1
                      go_simp
                      with_reducible rfl
                    rotate_left
                    · simp only [Act.put, List.setIfInBounds_toArray, List.set_cons_zero, List.set_cons_succ, i64_w, i32_w]
                      rfl
                    refine pure_ (i := 18) (N := some 105) (v := ?_) (a' := ?_) #[true, true, true, true, true, true, true, true, true, true, true, true, true, true, true, true, true, true, true, false, false, false, false, false, false, false, false, false, false, false] rfl rfl (by kernel_rfl) (fun _ _ _ h => h) (Or.inl ⟨by rfl, ?_⟩) ?_ ?_
                    rotate_left
                    · intro w'
                      go_simp
                      with_reducible rfl
                    rotate_left
                    · simp only [Act.put, List.setIfInBounds_toArray, List.set_cons_zero, List.set_cons_succ, i64_w, i32_w]
                      rfl
                    refine take_ (i := 19) (N := some 106) (v := ?_) (a' := ?_) #[true, true, true, true, true, true, true, true, true, true, true, true, true, true, true, true, true, true, true, true, false, false, false, false, false, false, false, false, false, false] rfl rfl (by kernel_rfl) (fun _ _ _ h => h) (Or.inl ⟨by rfl, ?_⟩) hHeld ?_ ?_
                    rotate_left
                    · rintro w' ⟨s0, s1, s2⟩
                      go_simp
                      with_reducible rfl
                    rotate_left
                    · simp only [Act.put, List.setIfInBounds_toArray, List.set_cons_zero, List.set_cons_succ, i64_w, i32_w]
                      rfl
                    refine pure_ (i := 20) (N := some 107) (v := ?_) (a' := ?_) #[true, true, true, true, true, true, true, true, true, true, true, true, true, true, true, true, true, true, true, true, true, false, false, false, false, false, false, false, false, false] rfl rfl (by kernel_rfl) (fun _ _ _ h => h) (Or.inl ⟨by rfl, ?_⟩) ?_ ?_
                    rotate_left
                    · intro w'
                      go_simp
                      with_reducible rfl
                    rotate_left
                    · simp only [Act.put, List.setIfInBounds_toArray, List.set_cons_zero, List.set_cons_succ, i64_w, i32_w]
                      rfl
                    refine take_ (i := 21) (N := some 108) (v := ?_) (a' := ?_) #[true, true, true, true, true, true, true, true, true, true, true, true, true, true, true, true, true, true, true, true, true, true, false, false, false, false, false, false, false, false] rfl rfl (by kernel_rfl) (fun _ _ _ h => h) (Or.inl ⟨by rfl, ?_⟩) hHeld ?_ ?_
                    rotate_left
                    · rintro w' ⟨s0, s1, s2⟩
                      go_simp
                      with_reducible rfl
                    rotate_left
                    · simp only [Act.put, List.setIfInBounds_toArray, List.set_cons_zero, List.set_cons_succ, i64_w, i32_w]
                      rfl
                    refine pure_ (i := 22) (N := some 109) (v := ?_) (a' := ?_) #[true, true, true, true, true, true, true, true, true, true, true, true, true, true, true, true, true, true, true, true, true, true, true, false, false, false, false, false, false, false] rfl rfl (by kernel_rfl) (fun _ _ _ h => h) (Or.inl ⟨by rfl, ?_⟩) ?_ ?_
                    rotate_left
                    · intro w'
                      go_simp
                      with_reducible rfl
                    rotate_left
                    · simp only [Act.put, List.setIfInBounds_toArray, List.set_cons_zero, List.set_cons_succ, i64_w, i32_w]
                      rfl
                    refine pure_ (i := 23) (N := some 110) (v := ?_) (a' := ?_) #[true, true, true, true, true, true, true, true, true, true, true, true, true, true, true, true, true, true, true, true, true, true, true, true, false, false, false, false, false, false] rfl rfl (by kernel_rfl) (fun _ _ _ h => h) (Or.inl ⟨by rfl, ?_⟩) ?_ ?_
                    rotate_left
                    · intro w'
                      have hwk := HWK.out
                      have hk1 := HK01.out.2
                      have hk0 := HK01.out.1
                      go_simp
                      with_reducible rfl
                    rotate_left
                    · simp only [Act.put, List.setIfInBounds_toArray, List.set_cons_zero, List.set_cons_succ, i64_w, i32_w]
                      rfl
                    refine pure_ (i := 24) (N := some 111) (v := ?_) (a' := ?_) #[true, true, true, true, true, true, true, true, true, true, true, true, true, true, true, true, true, true, true, true, true, true, true, true, true, false, false, false, false, false] rfl rfl (by kernel_rfl) (fun _ _ _ h => h) (Or.inl ⟨by rfl, ?_⟩) ?_ ?_
                    rotate_left
                    · intro w'
                      go_simp
                      with_reducible rfl
                    rotate_left
                    · simp only [Act.put, List.setIfInBounds_toArray, List.set_cons_zero, List.set_cons_succ, i64_w, i32_w]
                      rfl
                    refine take_ (i := 25) (N := some 112) (v := ?_) (a' := ?_) #[true, true, true, true, true, true, true, true, true, true, true, true, true, true, true, true, true, true, true, true, true, true, true, true, true, true, false, false, false, false] rfl rfl (by kernel_rfl) (fun _ _ _ h => h) (Or.inl ⟨by rfl, ?_⟩) hHeld ?_ ?_
                    rotate_left
                    · rintro w' ⟨s0, s1, s2⟩
                      go_simp
                      with_reducible rfl
                    rotate_left
                    · simp only [Act.put, List.setIfInBounds_toArray, List.set_cons_zero, List.set_cons_succ, i64_w, i32_w]
                      rfl
                    refine pure_ (i := 26) (N := some 113) (v := ?_) (a' := ?_) #[true, true, true, true, true, true, true, true, true, true, true, true, true, true, true, true, true, true, true, true, true, true, true, true, true, true, true, false, false, false] rfl rfl (by kernel_rfl) (fun _ _ _ h => h) (Or.inl ⟨by rfl, ?_⟩) ?_ ?_
                    rotate_left
                    · intro w'
                      go_simp
                      with_reducible rfl
                    rotate_left
                    · simp only [Act.put, List.setIfInBounds_toArray, List.set_cons_zero, List.set_cons_succ, i64_w, i32_w]
                      rfl
                    refine pure_ (i := 27) (N := some 114) (v := ?_) (a' := ?_) #[true, true, true, true, true, true, true, true, true, true, true, true, true, true, true, true, true, true, true, true, true, true, true, true, true, true, true, true, false, false] rfl rfl (by kernel_rfl) (fun _ _ _ h => h) (Or.inl ⟨by rfl, ?_⟩) ?_ ?_
                    rotate_left
                    · intro w'
                      go_simp
                      with_reducible rfl
                    rotate_left
                    · simp only [Act.put, List.setIfInBounds_toArray, List.set_cons_zero, List.set_cons_succ, i64_w, i32_w]
                      rfl
                    refine pure_ (i := 28) (N := some 115) (v := ?_) (a' := ?_) #[true, true, true, true, true, true, true, true, true, true, true, true, true, true, true, true, true, true, true, true, true, true, true, true, true, true, true, true, true, false] rfl rfl (by kernel_rfl) (fun _ _ _ h => h) (Or.inl ⟨by rfl, ?_⟩) ?_ ?_
                    rotate_left
                    · intro w'
                      go_simp
                      with_reducible rfl
                    rotate_left
                    · simp only [Act.put, List.setIfInBounds_toArray, List.set_cons_zero, List.set_cons_succ, i64_w, i32_w]
                      rfl
                    refine pure_ (i := 29) (N := some 3) (v := ?_) (a' := ?_) #[true, true, true, true, true, true, true, true, true, true, true, true, true, true, true, true, true, true, true, true, true, true, true, true, true, true, true, true, true, true] rfl rfl (by kernel_rfl) (fun _ _ _ h => h) (Or.inl ⟨by rfl, ?_⟩) ?_ ?_
                    rotate_left
                    · intro w'
                      go_simp
                      with_reducible rfl
                    rotate_left
                    · simp only [Act.put, List.setIfInBounds_toArray, List.set_cons_zero, List.set_cons_succ, i64_w, i32_w]
                      rfl
                    refine done_ (by kernel_rfl) ?_
                    have hwk2 := HWK2.out
                    go_wp2_with (fail)
                    go_roundg (n18 - ((k + 1) + 1))
                    case measure => omega
                    case rel => exact ⟨(k + 1) + 1, by omega, by omega, by go_num, by rw [HST2.out, HBA2.out]; rfl, HBc⟩
          · have hjn : j = n18 := by omega
            subst hjn
            obtain ⟨ok2, hok2⟩ : ∃ b, (ok1 && bandsOk x.f18 j) = b := ⟨_, rfl⟩
            rw [hok2]
            have HOK2 := Lib.hid hok2
            have HG6 := Lib.hid (blk_call HB.out HG5.out)
            have HB6 := Lib.hid (below_step HB5.out HB.out)
            have HF19 := Lib.hid (Kd.C_below HE19.out HB.out)
            have hc19 := blk_cellk (v := .slice P19 n19 q19) HG6.out 19 rfl
            clear HB HE18 HE19 HG5 HB5 hok2
            obtain ⟨wB, hwB⟩ : ∃ wB, wB = wr := ⟨_, rfl⟩
            subst hwB
            go_wp2_with (fail)
            clear hc19
            go_loopg [3, 120] n19 (fun gg v3 v120 wq => ∃ (k : Nat), k ≤ n19 ∧ n19 - k ≤ gg ∧ v120 = .int .i64 k ∧ v3 = .bool (ok2 && (x.f19.take k).all planOk) ∧ Hid (Below wB.heap.size wB wq))
            case atStart => exact ⟨0, Nat.zero_le _, by omega, rfl, by simp, Lib.hid (Below.refl _ _)⟩
            case round =>
              obtain ⟨k, hk, hgk, rfl, rfl, HB⟩ := hrel
              by_cases hlt : k < n19
              · have hltz : (k : Int) < (n19 : Int) := by omega
                have w1e : IntKind.i64.wrap ((k : Int) + 1) = (k : Int) + 1 := by rw [IntKind.wrap_i64]; have := HLM.out.2.2; omega
                obtain ⟨ad, ea, hcc⟩ := kPlan_C HF19.out k hlt
                subst ea
                obtain ⟨y, hy⟩ : ∃ y, x.f19.getD k z41 = y := ⟨_, rfl⟩
                rw [hy] at hcc
                have hyi : x.f19[k]? = some y := by rw [← hy, List.getD_eq_getElem?_getD, List.getElem?_eq_getElem (by rw [HN.out.2.2]; exact hlt)]; rfl
                have HTK := Lib.hid (show (ok2 && (x.f19.take (k + 1)).all planOk) = ((ok2 && (x.f19.take k).all planOk) && planOk y) by rw [List.take_add_one, hyi, List.all_append, Bool.and_assoc]; simp)
                have HCC := Lib.hid hcc
                have hc19 := blk_cellk (v := .slice (some ad) n19 q19) (blk_call HB.out HG6.out) 19 rfl
                obtain ⟨ok3, hok3⟩ : ∃ b, (ok2 && (x.f19.take k).all planOk) = b := ⟨_, rfl⟩
                rw [hok3] at HTK ⊢
                have KP := Lib.hid (fun W => plan_mk (ad.add (k * 3)) y.f0 y.f1 y.f2 W)
                have HPC := Lib.hid (fun W (hW : Below wB.heap.size wB W) => planF_in (y := y) (fun j v hv => cap_keep (HCC.out j v hv) hW))
                have HPS := Lib.hid (plan_same (ad.add (k * 3)) y)
                clear hy hyi hcc hok3
                cases ok3 with
                | false =>
                  go_wp2_with (fail)
                  go_roundg (n19 - (k + 1))
                  case measure => omega
                  case rel => exact ⟨k + 1, by omega, by omega, by go_num, by rw [HTK.out]; rfl, HB⟩
                | true =>
                  go_wp2_with (first
                    | (go_at_call 46; refine (KP.out _).mono ?_; rintro e w7 ⟨A7, c7, l7, rfl, hC7, hb7, hx7, hm7, _⟩; have KF := Lib.hid (fine_of (c := c7) hC7 hx7 hm7 (HPC.out _ (below_step HB.out hb7))); have HB7 := Lib.hid (below_step HB.out hb7); clear hC7 hb7 hx7 hm7)
                    | (go_at_call 41; refine KF.out.mono ?_; rintro e w8 ⟨rfl, hb8⟩; have HB8 := Lib.hid (below_step HB7.out hb8); clear hb8))
                  go_roundg (n19 - (k + 1))
                  case measure => omega
                  case rel => exact ⟨k + 1, by omega, by omega, by go_num, by rw [HTK.out]; rfl, HB8⟩
              · have hkn : k = n19 := by omega
                subst hkn
                have hta : x.f19.take k = x.f19 := List.take_of_length_le (Nat.le_of_eq HN.out.2.2)
                rw [hta]
                clear hta
                obtain ⟨ok3, hok3⟩ : ∃ b, (ok2 && x.f19.all planOk) = b := ⟨_, rfl⟩
                rw [hok3]
                have HOK3 := Lib.hid hok3
                have HRR := Lib.hid (show r = if ok3 then 0 else 2 by
                  rw [← HR.out]
                  unfold checkC
                  have h1 := HLM.out
                  rw [if_neg (by rw [HN.out.1, HN.out.2.1, HN.out.2.2]; omega), if_neg (fun h => h HNA.out), HOK0.out, HOK1.out, HN.out.2.1, HOK2.out, HOK3.out])
                clear hok3
                cases ok3 with
                | false =>
                  have hr2 : r = 2 := HRR.out
                  subst hr2
                  go_wp2_with (fail)
                  go_ret
                  exact ⟨rfl, below_step HB6.out HB.out⟩
                | true =>
                  have hr0 : r = 0 := HRR.out
                  subst hr0
                  go_wp2_with (fail)
                  go_ret
                  exact ⟨rfl, below_step HB6.out HB.out⟩
end Go.Proofs.Ytgiokbhedblkfaa.C
