/- batch.Get: the walk. -/
import Derived.Test.YtaoflcmjmhfblaaBaGet
namespace Go.Proofs.Ytaoflcmjmhfblaa.D
open Go.RowKit Go.Proofs.YtaoflcmjmhfblaaW.PrintWords Go.Proofs.YtaoflcmjmhfblaaW.PrintLast Go.Proofs.YtaoflcmjmhfblaaW.PrintMore Go.Proofs.Ytaoflcmjmhfblaa.H Go.Shelf
attribute [local go_sem] max2_int min2_int max_two min_two
set_option linter.unusedVariables false
set_option linter.unusedSimpArgs false
theorem RdI.at {w0 W W' : World} {gr : Nat} {rest : List Int} (h : RdI w0 gr rest W) (hb : Below w0.heap.size w0 W') (hk : W'.heap[gr]? = W.heap[gr]?) : RdI w0 gr rest W' := by
  obtain ⟨⟨A, c, h1, h2, h3⟩, h4, h5⟩ := h
  exact ⟨⟨A, c, hk.trans h1, h2, h3⟩, hb, h5⟩
theorem getL_no {l : List Int} (h : l.length < 4) : getL l = ([], 4) := by unfold getL; rw [if_pos h]
theorem getL_yes {l : List Int} (h : ¬ l.length < 4) : getL l = getLoop (valLE (l.take 4)).toNat (l.drop 4) [] := by unfold getL; rw [if_neg h]
theorem getLoop_end (rest : List Int) (acc : List ChgS) : getLoop 0 rest acc = if 0 < rest.length then ([], 5) else (acc, 0) := rfl
theorem getLoop_err {k : Nat} {rest : List Int} {acc : List ChgS} {c : Int} (h : chgR rest = .error c) : getLoop (k + 1) rest acc = ([], c) := by unfold getLoop; rw [h]
theorem getLoop_ok {k : Nat} {rest r : List Int} {acc : List ChgS} {x : ChgS} (h : chgR rest = .ok (x, r)) : getLoop (k + 1) rest acc = if mayC ((acc ++ [x]).drop (acc.length + 1 - 2)) then getLoop k r (acc ++ [x]) else ([], 5) := by conv => lhs; unfold getLoop; rw [h]
set_option maxHeartbeats 1000000 in
set_option maxRecDepth 100000 in
theorem batch_Get.calls (A0 : Option Addr) (c0 : Nat) (l0 : List Int) (r1 : List ChgS) (r2 : Int) (w : World) (hr0 : Kd.C (Kd.int .u8) w A0 l0.length l0) (hc0 : l0.length ≤ c0) (h : batch_Get.f l0 = some (r1, r2)) :
    Calls Try.prog 34 #[.slice A0 l0.length c0] w fun e w' => ∃ v0_ : Value, e = .returned (.tuple #[v0_, .int .i64 r2]) ∧ Kd.S kChg 96 w' w.heap.size (fun _ => True) v0_ r1 ∧ Below w.heap.size w w' := by
  unfold batch_Get.f at h
  by_cases hok : Bytes l0 ∧ (l0.length + 1) * 48 ≤ 140737488355328
  case neg => rw [if_neg hok] at h; cases h
  rw [if_pos hok] at h
  obtain ⟨hB, hsz⟩ := hok
  replace h := Option.some.inj h
  have HSZ := Lib.hid hsz
  have hbel := (Below.refl w.heap.size w).alloc (Nat.le_refl _) (.cells #[.slice A0 l0.length c0] 155 (0, 0))
  have hrd : RdI w w.heap.size l0 (w.alloc (.cells #[.slice A0 l0.length c0] 155 (0, 0))) := ⟨⟨A0, c0, heap_alloc_new _ _, hc0, hr0⟩, hbel, Nat.le_refl _⟩
  have HRD := Lib.hid hrd
  by_cases h4 : l0.length < 4
  · rw [getL_no h4] at h
    injection h with e1 e2
    subst e1
    subst e2
    have KS := Lib.hid (number_short w w.heap.size l0 4 _ hrd h4)
    have HBL := Lib.hid hbel
    obtain ⟨n, hn⟩ : ∃ n, l0.length = n := ⟨_, rfl⟩
    rw [hn] at KS HBL ⊢
    clear hr0 hc0 hB hsz hbel hrd HRD HSZ h4 hn
    go_enter Try.func34, Try.ntmps34
    go_wp2_with (first | (go_at_call 97; refine KS.out.mono ?_; rintro e w9 ⟨rfl, rfl⟩))
    go_ret2
    exact ⟨_, rfl, Kd.S_nil _ _ _ _ _, HBL.out⟩
  rw [getL_yes h4] at h
  have K1 := Lib.hid (number_ok w w.heap.size l0 4 _ hrd (by omega) (.inr rfl) hB)
  obtain ⟨N, hN⟩ : ∃ N : Nat, valLE (l0.take 4) = (N : Int) := ⟨(valLE (l0.take 4)).toNat, (Int.toNat_of_nonneg (valLE_bd (fun x hx => hB x (List.mem_of_mem_take hx))).1).symm⟩
  have hNb : (N : Int) < 4294967296 := by
    have h1 := (valLE_bd (a := l0.take 4) (fun x hx => hB x (List.mem_of_mem_take hx))).2
    have h2 : (l0.take 4).length = 4 := by rw [List.length_take]; omega
    rw [h2, hN] at h1
    have hp : (256 : Int) ^ 4 = 4294967296 := by decide
    rw [hp] at h1
    exact h1
  have HNB := Lib.hid hNb
  clear hNb
  rw [hN] at K1 h
  rw [Int.toNat_natCast] at h
  have HR0 := Lib.hid h
  have HB0 : Hid (Bytes (l0.drop 4)) := Lib.hid (fun x hx => hB x (List.mem_of_mem_drop hx))
  have HL0 := Lib.hid (show (l0.drop 4).length ≤ l0.length by rw [List.length_drop]; omega)
  obtain ⟨n, hn⟩ : ∃ n, l0.length = n := ⟨_, rfl⟩
  rw [hn] at K1 HSZ HL0 ⊢
  obtain ⟨d0, hd0⟩ : ∃ d0, l0.drop 4 = d0 := ⟨_, rfl⟩
  rw [hd0] at K1 HR0 HB0 HL0
  clear hr0 hc0 hB hsz hbel hrd HRD h4 h hN hn hd0
  go_enter Try.func34, Try.ntmps34
  go_wp2_with (first | (go_at_call 97; refine K1.out.mono ?_; rintro e w1 ⟨rfl, hr1, ho1⟩; have HR1 := Lib.hid hr1; clear hr1 ho1))
  go_loopg [7, 22] N (fun gg v7 v22 wr => ∃ (i : Nat) (rest : List Int) (acc : List ChgS), i ≤ N ∧ N - i ≤ gg ∧ v22 = .int .i64 i ∧ Hid (Kd.S kChg 96 wr w.heap.size (fun k => k ≠ w.heap.size) v7 acc) ∧ Hid (RdI w w.heap.size rest wr) ∧ Hid (Bytes rest) ∧ Hid (acc.length + rest.length ≤ n) ∧ Hid (getLoop (N - i) rest acc = (r1, r2)))
  case atStart => exact ⟨0, d0, [], Nat.zero_le _, Nat.le_refl _, rfl, Lib.hid (Kd.S_nil _ _ _ _ _), HR1, HB0, Lib.hid (by have h1 := HL0.out; rw [List.length_nil, Nat.zero_add]; exact h1), Lib.hid (by rw [Nat.sub_zero]; exact HR0.out)⟩
  case round =>
    obtain ⟨i, rest, acc, hi, hg, rfl, HS, HRD, HBT, HL, HR⟩ := hrel
    by_cases hlt : i < N
    · have hltz : (i : Int) < (N : Int) := by omega
      have w1e : IntKind.i64.wrap ((i : Int) + 1) = (i : Int) + 1 := by have := HNB.out; rw [IntKind.wrap_i64]; omega
      have hNi : N - i = (N - (i + 1)) + 1 := by omega
      have KCH := Lib.hid (change_calls w w.heap.size rest wr HRD.out HBT.out)
      have hr := HR.out
      rw [hNi] at hr
      cases hq : chgR rest with
      | error c =>
        rw [hq] at KCH
        rw [getLoop_err hq] at hr
        have KCE : Hid (Calls Try.prog 98 #[.pointer (some ⟨w.heap.size, 0, none⟩)] wr fun e w' => (∃ k A n cc b, e = .returned (.tuple #[.agg #[.string k, .slice A n cc, .bool b], .int .i64 c])) ∧ Below w.heap.size w w') := Lib.hid KCH.out
        have hc := chgR_err hq
        have HE1 := Lib.hid (Prod.mk.inj hr).1
        have HE2 := Lib.hid (Prod.mk.inj hr).2
        clear hq hNi KCH hr
        go_upto_region 9 with (first
          | (go_at_call 98; refine KCE.out.mono ?_; rintro e w2 ⟨⟨k2, A2, n2, c2, b2, rfl⟩, hb2⟩; have HB2 := Lib.hid hb2; clear hb2)
          | ((with_reducible refine gate_storeT 96 rfl ?_); refine wpList_store_row rfl 96 _ _ rfl _ _ rfl rfl 96 _ (heap_alloc_new _ _) (by kernel_rfl) rfl (by simp [Value.oneCell']) ?_; rw [setRow_alloc]))
        have HB3 := Lib.hid (HB2.out.alloc HB2.out.size (.cells #[.string k2, .slice A2 n2 c2, .bool b2] 96 (0, 0)))
        generalize w2.alloc (.cells #[.string k2, .slice A2 n2 c2, .bool b2] 96 (0, 0)) = w3 at HB3 ⊢
        clear HR HR0 KCE
        rcases hc with hc | hc | hc
        all_goals
          subst hc
          go_wp2_with (fail)
          go_ret2
          exact ⟨_, ret_t rfl (congrArg (Value.int .i64) HE2.out), by rw [← HE1.out]; exact Kd.S_nil _ _ _ _ _, HB3.out⟩
      | ok p =>
        obtain ⟨x, r⟩ := p
        rw [hq] at KCH
        rw [getLoop_ok hq] at hr
        obtain ⟨⟨j, hj⟩, hlr⟩ := chgR_ok hq
        have HBR : Hid (Bytes r) := Lib.hid (fun y hy => HBT.out y (by rw [hj] at hy; exact List.mem_of_mem_drop hy))
        have hls := HL.out
        have HLS := Lib.hid (show (acc.length + 1) * 48 ≤ 140737488355328 by have := HSZ.out; omega)
        have HL2 := Lib.hid (show (acc ++ [x]).length + r.length ≤ n by rw [List.length_append, List.length_singleton]; omega)
        have hll : (acc ++ [x]).length = acc.length + 1 := by simp
        obtain ⟨L, hL⟩ : ∃ L, acc.length + 1 = L := ⟨_, rfl⟩
        rw [hL] at hr hll
        obtain ⟨B, hBB⟩ : ∃ B, acc ++ [x] = B := ⟨_, rfl⟩
        rw [hBB] at hr hll HL2
        have HBQ := Lib.hid hBB
        have HLL := Lib.hid hll
        have hLz : (L : Int) ≤ 9223372036854775807 := by have := HLS.out; omega
        have hmx : (if ((L : Int) - 2) < 0 then (0 : Int) else (L : Int) - 2) = ((L - 2 : Nat) : Int) := by split <;> omega
        have wL : IntKind.i64.wrap ((L : Int) - 2) = (L : Int) - 2 := by rw [IntKind.wrap_i64]; omega
        have KCO : Hid (Calls Try.prog 98 #[.pointer (some ⟨w.heap.size, 0, none⟩)] wr fun e w' => ∃ v1, e = .returned (.tuple #[.agg #[.string x.f0, v1, .bool x.f2], .int .i64 0]) ∧ Kd.R (Kd.int .u8) 5 w' wr.heap.size (fun _ => True) v1 x.f1 ∧ RdI w w.heap.size r w' ∧ KeepBut wr w' w.heap.size none) := Lib.hid KCH.out
        clear KCH hj hlr hls hq hNi hBB hL
        go_upto_region 11 with (first
          | (go_at_call 98; refine KCO.out.mono ?_; rintro e w2 ⟨v2, rfl, hv2, hr2, hk2⟩; have HV2 := Lib.hid hv2; have HR2 := Lib.hid hr2; have HK2 := Lib.hid hk2; have HS2 := Lib.hid (Kd.S_keep (Kd.S_bound HS.out) hk2 (fun k hk => hk.1)); obtain ⟨A2, c2, hvv⟩ := Kd.R_slice hv2; subst hvv; clear hv2 hr2 hk2)
          | ((with_reducible refine gate_storeT 96 rfl ?_); refine wpList_store_row rfl 96 _ _ rfl _ _ rfl rfl 96 _ (heap_alloc_new _ _) (by kernel_rfl) rfl (by simp [Value.oneCell']) ?_; rw [setRow_alloc]))
        have HG3 := Lib.hid (heap_alloc_new w2 (.cells #[.string x.f0, .slice A2 x.f1.length c2, .bool x.f2] 96 (0, 0)))
        have HB3 := Lib.hid (HR2.out.b.alloc HR2.out.b.size (.cells #[.string x.f0, .slice A2 x.f1.length c2, .bool x.f2] 96 (0, 0)))
        have HS3 := Lib.hid (Kd.S_alloc HS2.out (.cells #[.string x.f0, .slice A2 x.f1.length c2, .bool x.f2] 96 (0, 0)))
        have hb2 := (Below.refl w2.heap.size w2).alloc (Nat.le_refl _) (.cells #[.string x.f0, .slice A2 x.f1.length c2, .bool x.f2] 96 (0, 0))
        have HR3 := Lib.hid (HR2.out.later hb2)
        have HV3 := Lib.hid (Kd.R_below (Kd.R_bound HV2.out) hb2)
        have HK3 := Lib.hid (show wr.heap.size ≤ (w2.alloc (.cells #[.string x.f0, .slice A2 x.f1.length c2, .bool x.f2] 96 (0, 0))).heap.size by have h1 := HK2.out.1; rw [World.size_alloc]; omega)
        obtain ⟨g3, hg3⟩ : ∃ g3, w2.heap.size = g3 := ⟨_, rfl⟩
        rw [hg3] at HG3 ⊢
        clear hb2 hg3
        generalize w2.alloc (.cells #[.string x.f0, .slice A2 x.f1.length c2, .bool x.f2] 96 (0, 0)) = w3 at HG3 HB3 HS3 HR3 HV3 HK3 ⊢
        have hgl : w.heap.size < wr.heap.size := by obtain ⟨A, c, h1, _⟩ := HRD.out.c; exact blk_lt h1
        have HGL := Lib.hid hgl
        have HVL := Lib.hid (Kd.R_lower HV3.out (Nat.le_of_lt hgl))
        have HNE := Lib.hid (Kd.S_away HS.out (fun k hk => hk))
        have HLT := Lib.hid (Kd.S_lt HS.out)
        clear HV3 HV2 hgl HS HS2
        go_upto_region 12 with (first
          | ((with_reducible refine gate_load 96 rfl ?_); refine wpList_load_row rfl 96 _ rfl _ rfl 96 _ _ _ HG3.out Try.underlying96 rfl (by kernel_rfl) ?_)
          | ((with_reducible refine gate_builtin (b := .append) (xs := #[.tmp 32, .tmp 34]) rfl ?_); at_builtin; refine Kd.S_append kChg (w0 := w) w.heap.size rfl (.tmp 32) (.tmp 34) 75 96 (.agg #[(.string ⟨#[]⟩), (.slice none 0 0), (.bool false)]) 48 rfl Try.underlying75 info96 rfl (by decide) (by decide) u7 acc x [.string x.f0, .slice A2 x.f1.length c2, .bool x.f2] (fun k => k ≠ w.heap.size) _ rfl rfl (k96_of HVL.out) (fun k hk => ⟨by have h1 := HGL.out; have h2 := hk.2.1; omega, fun he => by have h1 := HLT.out k he.symm; have h2 := hk.2.1; omega⟩) (fun k hk => by have h1 := HGL.out; have h2 := HK3.out; omega) (Kd.S_mono HS3.out (fun k hk => ⟨hk.1, fun h2 => by have h3 := hk.2.2.1; have h4 := h2.2.1; omega⟩)) HB3.out HB3.out.size HLS.out ?_; intro v5 w5 ho hb hg hat; rw [HBQ.out] at ho; have HS5 := Lib.hid ho; have HB5 := Lib.hid hb; have HR5 := Lib.hid (HR3.out.at hb (hg.block _ (by have h1 := HGL.out; have h2 := HK3.out; omega) HNE.out)); clear ho hb hg hat))
        obtain ⟨A5, c5, hv5, hc5, hC5⟩ := Kd.S_reads HS5.out
        subst hv5
        have hl := HLL.out
        have KM := Lib.hid (batch_MayChange.calls _ (c5 - (L - 2)) (B.drop (L - 2)) (mayC (B.drop (L - 2))) w5 (Kd.C_drop (c := c5) (m := L - 2) hC5 (by omega) hc5) (by rw [List.length_drop]; omega) rfl)
        obtain ⟨i96, hi96, hs96⟩ := info_size info96
        rw [hl] at hc5 ⊢
        have hcut := cut_from (P := Try.prog) 75 96 .i64 Try.underlying75 hi96 3 hs96 A5 L c5 ((L - 2 : Nat) : Int) (by omega) (by omega)
        rw [Int.toNat_natCast] at hcut
        have hld : (B.drop (L - 2)).length = L - (L - 2) := by rw [List.length_drop, hl]
        rw [hld] at KM
        obtain ⟨A6, hA6⟩ : ∃ A6, (if c5 = L - 2 then A5 else A5.map (·.add ((L - 2) * 3))) = A6 := ⟨_, rfl⟩
        rw [hA6] at hcut
        have KM : Hid (Calls Try.prog 33 #[.slice A6 (L - (L - 2)) (c5 - (L - 2))] w5 fun e w' => e = .returned (.bool (mayC (B.drop (L - 2)))) ∧ Below w5.heap.size w5 w') := Lib.hid (by rw [← hA6]; exact KM.out)
        obtain ⟨b, hb⟩ : ∃ b, mayC (B.drop (L - 2)) = b := ⟨_, rfl⟩
        rw [hb] at KM hr
        clear hA6 hb hl hld hC5 HSZ
        cases b with
        | false =>
          rw [if_neg (by decide)] at hr
          injection hr with e1 e2
          subst e1
          subst e2
          go_wp2_with (first | (go_at_call 33; refine KM.out.mono ?_; rintro e w7 ⟨rfl, hb7⟩; have HB7 := Lib.hid (below_step HB5.out hb7); clear hb7))
          go_ret2
          exact ⟨_, rfl, Kd.S_nil _ _ _ _ _, HB7.out⟩
        | true =>
          rw [if_pos rfl] at hr
          have HRR := Lib.hid hr
          clear hr
          go_wp2_with (first | (go_at_call 33; refine KM.out.mono ?_; rintro e w7 ⟨rfl, hb7⟩; have HS7 := Lib.hid (Kd.S_below HS5.out hb7); have HR7 := Lib.hid (HR5.out.later hb7); clear hb7))
          go_roundg (N - (i + 1))
          case measure => omega
          case rel => exact ⟨i + 1, r, B, by omega, Nat.le_refl _, by go_num, by have h1 := HS7; rw [HLL.out] at h1; exact h1, HR7, HBR, HL2, HRR⟩
    · have : i = N := by omega
      subst this
      have hr := HR.out
      rw [Nat.sub_self, getLoop_end] at hr
      obtain ⟨⟨A, c, h1, h2, h3⟩, h4, h5⟩ := HRD.out
      have hcx := blk_cell0 h1
      have hm3 := Kd.C_max h3
      by_cases hp : 0 < rest.length
      · rw [if_pos hp] at hr
        injection hr with e1 e2
        subst e1
        subst e2
        have HB4 := Lib.hid h4
        obtain ⟨q, hq⟩ : ∃ q, rest.length = q := ⟨_, rfl⟩
        rw [hq] at hcx hp hm3
        have hpz : (0 : Int) < (q : Int) := by omega
        clear h1 h2 h3 h4 h5 hq
        go_wp2_with (fail)
        go_ret2
        exact ⟨_, rfl, Kd.S_nil _ _ _ _ _, HB4.out⟩
      · rw [if_neg hp] at hr
        injection hr with e1 e2
        subst e1
        subst e2
        have HB4 := Lib.hid h4
        have hq : rest.length = 0 := by omega
        rw [hq] at hcx
        clear h1 h2 h3 h4 h5 hq
        go_wp2_with (fail)
        go_ret2
        exact ⟨_, rfl, Kd.S_mono HS.out (fun _ _ => trivial), HB4.out⟩
end Go.Proofs.Ytaoflcmjmhfblaa.D
