/- The walk of ExtraEnds, where none is. -/
import Derived.Test.YtnlcpgeapgnkgaaEnds
namespace Go.Proofs.Ytnlcpgeapgnkgaa.H
open Go.RowKit Go.Proofs.YtnlcpgeapgnkgaaW.PrintWords Go.Proofs.YtnlcpgeapgnkgaaW.PrintLast Go.Proofs.YtnlcpgeapgnkgaaW.PrintMore
set_option linter.unusedVariables false
set_option linter.unusedSimpArgs false
set_option maxHeartbeats 8000000 in
set_option maxRecDepth 100000 in
theorem exends_one {cs : Array Value} {s : StV} (hF : StF cs s) (L : List InV) (w : World) (hL : kInst.C w s.ia s.ilen L) (hg : (decide (300 < s.ilen) || decide (300 < s.olen)) = false) (hM : MayL L) (hd : 0 ≤ s.desired ∧ s.desired ≤ 65536) (hs : 0 ≤ s.surge ∧ s.surge ≤ 65536) :
    Calls Try.prog 3 #[.agg cs, .bool false] w fun e w' => e = .returned (.bool true) ∧ Below w.heap.size w w' := by
  have hl := hL.1
  have hm := Kd.C_max hL
  have hz := hF.size
  have vi := hF.insts
  have vd := hF.desired
  have vs := hF.surge
  have KG := Lib.hid (fun W => great_calls hF W)
  have HF := Lib.hid hF
  have HB0 := Lib.hid (Boxd.new w 36 cs)
  have HW0 := Lib.hid ((Below.refl w.heap.size w).alloc (Nat.le_refl _) (.cells cs 36))
  have HL := Lib.hid hL
  have HZ := Lib.hid hz
  have VI := Lib.hid vi
  have VD := Lib.hid vd
  have VS := Lib.hid vs
  have mixed : Try.prog.follows .mixedOrders = true := by kernel_rfl
  rw [hg] at KG
  have HM := Lib.hid hM
  have HD := Lib.hid hd
  have HS := Lib.hid hs
  have hlen : s.ilen ≤ 300 := by
    simp only [Bool.or_eq_false_iff, decide_eq_false_iff_not] at hg
    omega
  have HN := Lib.hid hl
  obtain ⟨A, hA⟩ : ∃ A, s.ia = A := ⟨_, rfl⟩
  obtain ⟨n, hn⟩ : ∃ n, s.ilen = n := ⟨_, rfl⟩
  obtain ⟨c, hcc⟩ : ∃ c, s.ic = c := ⟨_, rfl⟩
  obtain ⟨d, hdd⟩ : ∃ d, s.desired = d := ⟨_, rfl⟩
  obtain ⟨u, hu⟩ : ∃ u, s.surge = u := ⟨_, rfl⟩
  rw [hA, hn, hcc] at VI
  rw [hA, hn] at HL
  rw [hn] at HN hlen hm
  rw [hdd] at VD hd
  rw [hu] at VS hs
  clear hz vi vd vs hF hL hg hM hl hA hn hcc hdd hu
  obtain ⟨z1, z2⟩ := hd
  obtain ⟨z3, z4⟩ := hs
  go_enter Try.func3, Try.ntmps3
  go_wp2_with (first
    | ((with_reducible refine gate_load 36 rfl ?_); refine wpList_load_row rfl 36 _ rfl _ rfl 36 _ _ _ HB0.out Try.underlying36 rfl (by rw [HZ.out]; kernel_rfl) ?_)
    | (go_at_call 9; refine (KG.out _).mono ?_; rintro e w1 ⟨rfl, hg⟩; have HB1 := Lib.hid (HB0.out.below hg.below); have HW1 := Lib.hid (below_step HW0.out hg.below); have c46 := HB1.out.cell VI.out; clear hg)
    | (go_at_call 10; refine (rsumsMay_calls _ _ _ L _ (Kd.C_below HL.out HW1.out)).mono ?_; rintro e w2 ⟨hr, hw⟩; obtain rfl := hr.b HM.out; have HB2 := Lib.hid (HB1.out.below hw); have HW2 := Lib.hid (below_step HW1.out hw); have d42 := HB2.out.cell VD.out; have d8 := HB2.out.cell VS.out; clear hw hr)
    | ((with_reducible refine gate_storeT 33 rfl ?_); refine wpList_store_any rfl 33 _ _ rfl w.heap.size 36 48 (cs) (.agg #[.bool true, .int .i64 0, .int .i64 100, .int .i64 0, .bool false, .bool false]) [.bool true, .int .i64 0, .int .i64 100, .int .i64 0, .bool false, .bool false] HB2.out rfl rfl rfl (by kernel_rfl) (by simp [putL, HZ.out]) (by simp [Value.oneCell']) ?_; intro w3 hb hw hk; have HB3 : Hid (Boxd w3 w.heap.size 36 (putL cs 48 [.bool true, .int .i64 0, .int .i64 100, .int .i64 0, .bool false, .bool false])) := Lib.hid hb; have HW3 := Lib.hid (low_box rfl HW2.out hw); clear hb hw hk)
    | ((with_reducible refine gate_storeT 28 rfl ?_); refine wpList_store_any rfl 28 _ _ rfl w.heap.size 36 40 ((putL cs 48 [.bool true, .int .i64 0, .int .i64 100, .int .i64 0, .bool false, .bool false])) (.int .u32 2) [.int .u32 2] HB3.out rfl rfl rfl (by kernel_rfl) (by simp [putL, HZ.out]) (by simp [Value.oneCell']) ?_; intro w4 hb hw hk; have HB4 : Hid (Boxd w4 w.heap.size 36 ((putL cs 48 [.bool true, .int .i64 0, .int .i64 100, .int .i64 0, .bool false, .bool false]).setIfInBounds 40 (.int .u32 2))) := Lib.hid hb; have HW4 := Lib.hid (low_box rfl HW3.out hw); have e46 := HB4.out.cell (k := 46) (v := .slice A n c) (by simp only [putL, Array.getElem?_setIfInBounds, Array.size_setIfInBounds, HZ.out, Nat.reduceEqDiff, Nat.reduceAdd, Nat.reduceLT, if_true, if_false, reduceIte]; exact VI.out); clear hb hw hk)
    | ((with_reducible refine gate_builtin (b := .append) (xs := #[.tmp 42, .tmp 44]) rfl ?_); at_builtin; refine Kd.R_append_rows kInst (w0 := w4) w4.heap.size rfl (.tmp 42) (.tmp 44) 30 41 _ 72 rfl Try.underlying30 instInfo rfl (by decide) (by omega) (.slice none 0 0) ([] : List InV) L _ _ _ (fun k => k ≠ w.heap.size) (fun _ => False) rfl rfl (Kd.R_nil _ _ _ _ (fun k => k ≠ w.heap.size)) (Kd.C_below HL.out HW4.out) kInst_KM (fun _ h => h.elim) (fun k hk => by have := HB4.out.lt; omega) (Below.refl _ _) (Nat.le_refl _) (by rw [List.length_nil]; omega) ?_; intro v1 w5 ho hb hg hat; clear hg hat; rw [List.nil_append] at ho; obtain ⟨A1, c1, rfl, hc1, _⟩ := Kd.R_reads ho; rw [HN.out] at ho hc1 ⊢; have HR5 := Lib.hid ho; have HB5 := Lib.hid hb; clear ho hb))
  all_goals (try (exfalso; omega))
  obtain ⟨gb, hgb⟩ : ∃ g, g = w.heap.size := ⟨_, rfl⟩
  rw [← hgb] at HB4 HR5 ⊢
  have HGB := Lib.hid hgb
  clear hgb HB0 HB1 HB2 HB3
  go_loopw [5, 7] (fun u5 u7 wr => ∃ (i : Nat), i ≤ n ∧ u7 = .int .i64 i ∧ u5 = .bool ((L.take i).any serves) ∧ Hid (Below w4.heap.size w4 wr) ∧ Hid (kInst.R 41 wr w4.heap.size (fun k => k ≠ gb) (.slice A1 n c1) (LLof 1 L i))) (fun _ u7 _ => n - (intOf u7).toNat)
  case atStart => exact ⟨0, by omega, rfl, rfl, HB5, Lib.hid (by rw [LL_zero]; exact HR5.out)⟩
  case round =>
    obtain ⟨i, hi, rfl, rfl, HB, HR⟩ := hrel
    by_cases hlt : i < n
    · obtain ⟨ad, ea, _⟩ := inst_at (R_C HR.out) i hlt
      subst ea
      obtain ⟨g, rfl⟩ := Kd.R_head HR.out
      have hiL : i < L.length := by rw [HN.out]; exact hlt
      have HIL := Lib.hid hiL
      obtain ⟨x, hx⟩ : ∃ x, L.getD i noInst = x := ⟨_, rfl⟩
      have c0 := row_at HR.out hlt ((LL_get 1 L hiL).trans hx)
      have hset : ∀ y z : InV, ((LLof 1 L i).set i y).getD i noInst = y ∧ (((LLof 1 L i).set i y).set i z).getD i noInst = z := fun y z => by
        have hll := LL_len 1 L (Nat.le_of_lt hiL)
        rw [List.set_set]
        constructor <;> simp [List.getD_eq_getElem?_getD, hll, hiL]
      have HSET := Lib.hid hset
      have HX := Lib.hid hx
      obtain ⟨sb, hsb⟩ : ∃ b, (L.take i).any serves = b := ⟨_, rfl⟩
      rw [hsb]
      have HSB := Lib.hid hsb
      clear hiL hx hset hsb
      obtain ⟨i0, i1, i2, i3, i4, i5, i6, i7, i8, i9, i10, i11⟩ := x
      have C0 : Hid (∀ j v, ([.int .u64 i0, .int .u64 i1, .int .i64 i2, .int .i64 i3, .bool i4, .int .u8 i5, .int .u64 i6, .bool i7, .int .u64 i8, .bool i9, .bool i10, .int .u32 i11] : List Value)[j]? = some v → wr.cell? ⟨g, i * 12 + j, none⟩ = some v) := Lib.hid c0
      clear c0
      cases sb
      all_goals
        go_wp2_with (first
          | ((with_reducible refine gate_storeT 28 rfl ?_); refine Kd.R_store kInst (w0 := w4) w4.heap.size rfl rfl 28 _ _ rfl 41 (g := g) (n := n) (cap := c1) (i : Int) 11 (LLof 1 L i) ⟨i0, i1, i2, i3, i4, i5, i6, i7, i8, i9, i10, 1⟩ (.int .u32 1) [.int .u32 1] [.int .u64 i0, .int .u64 i1, .int .i64 i2, .int .i64 i3, .bool i4, .int .u8 i5, .int .u64 i6, .bool i7, .int .u64 i8, .bool i9, .bool i10, .int .u32 i11] (fun k => k ≠ gb) (fun _ => False) rfl rfl rfl rfl (by kernel_rfl) (by simp [Value.oneCell']) HR.out (by omega) (by omega) rfl C0.out (by decide) (kInst_M _ _ _ _) (fun _ h => h.elim) HB.out ?_; intro w6 hr hb hk; clear hk; have HR6 : Hid (kInst.R 41 w6 w4.heap.size (fun k => k ≠ gb) (.slice (some ⟨g, 0, none⟩) n c1) ((LLof 1 L i).set i ⟨i0, i1, i2, i3, i4, i5, i6, i7, i8, i9, i10, 1⟩)) := Lib.hid hr; have HB6 := Lib.hid hb; have C6 : Hid (∀ j v, ([.int .u64 i0, .int .u64 i1, .int .i64 i2, .int .i64 i3, .bool i4, .int .u8 i5, .int .u64 i6, .bool i7, .int .u64 i8, .bool i9, .bool i10, .int .u32 1] : List Value)[j]? = some v → w6.cell? ⟨g, i * 12 + j, none⟩ = some v) := Lib.hid (row_at HR6.out hlt (HSET.out _ ⟨i0, i1, i2, i3, i4, i5, i6, i7, i8, i9, i10, i11⟩).1); clear hr hb)
          | ((with_reducible refine gate_storeT 4 rfl ?_); refine Kd.R_store kInst (w0 := w4) w4.heap.size rfl rfl 4 _ _ rfl 41 (g := g) (n := n) (cap := c1) (i : Int) 9 ((LLof 1 L i).set i ⟨i0, i1, i2, i3, i4, i5, i6, i7, i8, i9, i10, 1⟩) ⟨i0, i1, i2, i3, i4, i5, i6, i7, i8, false, i10, 1⟩ (.bool false) [.bool false] [.int .u64 i0, .int .u64 i1, .int .i64 i2, .int .i64 i3, .bool i4, .int .u8 i5, .int .u64 i6, .bool i7, .int .u64 i8, .bool i9, .bool i10, .int .u32 1] (fun k => k ≠ gb) (fun _ => False) rfl rfl rfl rfl (by kernel_rfl) (by simp [Value.oneCell']) HR6.out (by omega) (by omega) rfl C6.out (by decide) (kInst_M _ _ _ _) (fun _ h => h.elim) HB6.out ?_; intro w7 hr hb hk; clear hk; have HR7 : Hid (kInst.R 41 w7 w4.heap.size (fun k => k ≠ gb) (.slice (some ⟨g, 0, none⟩) n c1) (((LLof 1 L i).set i ⟨i0, i1, i2, i3, i4, i5, i6, i7, i8, i9, i10, 1⟩).set i ⟨i0, i1, i2, i3, i4, i5, i6, i7, i8, false, i10, 1⟩)) := Lib.hid hr; have HB7 := Lib.hid hb; have q5 : w7.cell? ⟨g, i * 12 + 5, none⟩ = some (.int .u8 i5) := row_at HR7.out hlt (HSET.out _ _).2 5 _ rfl; clear hr hb))
      all_goals exact ⟨⟨i + 1, by omega, by go_num, by rw [any_succ serves L HIL.out, HSB.out, HX.out]; first | rfl | (show Value.bool true = _; simp) | (simp [serves, *]), HB7, Lib.hid (by rw [← LL_set 1 L HIL.out ⟨i0, i1, i2, i3, i4, i5, i6, i7, i8, i9, i10, 1⟩, HX.out]; exact HR7.out)⟩, by simp only [intOf]; omega⟩
    · have hin : i = n := by omega
      subst hin
      have hre : LLof 1 L i = L.map (fx 1) := by rw [← HN.out]; exact LL_end 1 L
      have hrr := HR.out
      rw [hre] at hrr
      have HR0 := Lib.hid hrr
      have HBW := Lib.hid (HB4.out.below HB.out)
      have HWW := Lib.hid (below_step HW4.out HB.out)
      clear hrr hre
      obtain ⟨sv, hsv⟩ : ∃ b, L.any serves = b := ⟨_, rfl⟩
      have e0 : L.take i = L := List.take_of_length_le (by rw [HN.out]; omega)
      rw [e0, hsv]
      have HSV := Lib.hid hsv
      clear e0 hsv
      go_upto_region 20 with (first
        | ((with_reducible refine gate_storeT 30 rfl ?_); refine wpList_store_any rfl 30 _ _ rfl gb 36 46 ((putL cs 48 [.bool true, .int .i64 0, .int .i64 100, .int .i64 0, .bool false, .bool false]).setIfInBounds 40 (.int .u32 2)) (.slice A1 i c1) [.slice A1 i c1] HBW.out rfl rfl rfl (by kernel_rfl) (by simp [putL, HZ.out]) (by simp [Value.oneCell']) ?_; intro w8 hb hw hk; have HB8 : Hid (Boxd w8 gb 36 (((putL cs 48 [.bool true, .int .i64 0, .int .i64 100, .int .i64 0, .bool false, .bool false]).setIfInBounds 40 (.int .u32 2)).setIfInBounds 46 (.slice A1 i c1))) := Lib.hid hb; have HW8 := Lib.hid (low_box HGB.out HWW.out hw); have HR8 := Lib.hid (Kd.R_step HR0.out (fun k ho _ => hk k ho)); clear hb hw hk)
        | ((with_reducible refine gate_storeT 31 rfl ?_); refine wpList_store_any rfl 31 _ _ rfl gb 36 47 (((putL cs 48 [.bool true, .int .i64 0, .int .i64 100, .int .i64 0, .bool false, .bool false]).setIfInBounds 40 (.int .u32 2)).setIfInBounds 46 (.slice A1 i c1)) (.slice none 0 0) [.slice none 0 0] HB8.out rfl rfl rfl (by kernel_rfl) (by simp [putL, HZ.out]) (by simp [Value.oneCell']) ?_; intro w9 hb hw hk; have hb9 : Boxd w9 gb 36 (endC cs A1 i c1) := hb; have hf9 := endF HF.out A1 i c1; have hz9 := hf9.size; generalize endC cs A1 i c1 = c9 at hb9 hf9 hz9; have HB9 := Lib.hid hb9; have HF9 := Lib.hid hf9; have HZ9 := Lib.hid hz9; have HW9 := Lib.hid (low_box HGB.out HW8.out hw); have HC9 := Lib.hid (R_C (Kd.R_step HR8.out (fun k ho _ => hk k ho))); clear hb hb9 hf9 hz9 hw hk))
      cases sv
      case false =>
        go_wp2_with (first | (go_at_call 11; refine (lives25 _).mono ?_; rintro e w12 ⟨rfl, hw⟩; have HW12 := Lib.hid (below_step HW9.out hw); clear hw))
        go_ret
        exact ⟨rfl, HW12.out⟩
      case true =>
        go_wp2_with (first
          | ((with_reducible refine gate_load 36 rfl ?_); refine load_row_g (by rfl) 36 _ rfl _ rfl 36 _ _ _ (by first | exact HB10.out | exact HB9.out) Try.underlying36 rfl (by rw [HZ9.out]; kernel_rfl) ?_)
          | (go_at_call 12; refine (ends_yes HF9.out (L.map (fx 1)) _ HC9.out (endMay HD.out HS.out HM.out 1 A1 i c1) rfl).mono ?_; rintro e w10 ⟨hr, hw⟩; obtain rfl := hr.n (ends_none _ _ _ HSV.out); have HC10 := Lib.hid (Kd.C_below HC9.out hw); have HB10 := Lib.hid (HB9.out.below hw); have HW10 := Lib.hid (below_step HW9.out hw); clear hw hr)
          | (go_at_call 13; refine (of_one_l HD.out HS.out HM.out HF9.out _ HC10.out HSV.out).mono ?_; rintro e w11 ⟨⟨q, rfl, hq⟩, hw⟩; have HW11 := Lib.hid (below_step HW10.out hw); clear hw)
          | (go_at_call 11; refine (lives25 _).mono ?_; rintro e w12 ⟨rfl, hw⟩; have HW12 := Lib.hid (below_step HW11.out hw); clear hw))
        all_goals first
          | (exfalso; omega)
          | (go_ret; exact ⟨rfl, HW12.out⟩)
end Go.Proofs.Ytnlcpgeapgnkgaa.H
