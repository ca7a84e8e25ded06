/- cohortlaw09.lives: a batch that the document tells. -/
import Derived.Test.YtaoflcmjmhfblaaBaGet2
import Derived.Test.YtaoflcmjmhfblaaBaFind
import Derived.Test.YtaoflcmjmhfblaaBaChgs
import Derived.Test.YtaoflcmjmhfblaaD3
namespace Go.Proofs.Ytaoflcmjmhfblaa.D
open Go.RowKit Go.Proofs.YtaoflcmjmhfblaaW.PrintWords Go.Proofs.YtaoflcmjmhfblaaW.PrintLast Go.Proofs.YtaoflcmjmhfblaaW.PrintMore Go.Proofs.Ytaoflcmjmhfblaa.H Go.Shelf
set_option linter.unusedVariables false
set_option linter.unusedSimpArgs false
def xa : ChgS := ⟨⟨#[97]⟩, [7], false⟩
def xb : ChgS := ⟨⟨#[98]⟩, [], false⟩
def xa0 : ChgS := ⟨⟨#[97]⟩, [], false⟩
def xg : ChgS := ⟨⟨#[97]⟩, [], true⟩
def xb8 : ChgS := ⟨⟨#[98]⟩, [8], false⟩
def ra : RowS := ⟨⟨#[97]⟩, [7]⟩
def rb : RowS := ⟨⟨#[98]⟩, [8]⟩
def told : List Int := [1, 0, 0, 0, 1, 97, 0, 1, 0, 0, 0, 7]
theorem tl (b : UInt8) : (⟨#[b]⟩ : ByteArray).toList = [b] := by rw [ByteArray.toList_eq]
theorem t1 : mayC [xa] = true := by
  simp [mayC, badC, risingI, okAt, keyC, lenC, xa, tl, ByteArray.size, List.range, List.range.loop]
theorem t2 : putL [xa] = told := by decide
theorem t3 : mayC [xb, xa0] = false := by
  simp [mayC, badC, risingI, okAt, keyC, lenC, xb, xa0, tl, ByteArray.size, List.range, List.range.loop]
  decide
theorem t4 : mayC [xg, xb8] = true := by
  simp [mayC, badC, risingI, okAt, keyC, lenC, xg, xb8, tl, ByteArray.size, List.range, List.range.loop]
  decide
theorem t5 : mayR [ra] = true := by
  simp [mayR, risingI, okAt, keyR, lenR, ra, tl, ByteArray.size, List.range, List.range.loop]
theorem t6 : chgR [1, 97, 0, 1, 0, 0, 0, 7] = .ok (xa, []) := by rfl
theorem t7 : batch_ApplyL [ra] [xg, xb8] = [rb] := by
  simp [batch_ApplyL, bothL, ra, xg, xb8, rb, cmpL, stepA]
theorem t8 : getL told = ([xa], 0) := by
  have e1 : (valLE (told.take 4)).toNat = 1 := by decide
  have e2 : told.drop 4 = [1, 97, 0, 1, 0, 0, 0, 7] := by decide
  rw [getL_yes (by decide), e1, e2, getLoop_ok t6]
  have e3 : (([] : List ChgS) ++ [xa]).drop (([] : List ChgS).length + 1 - 2) = [xa] := rfl
  rw [e3, if_pos t1]
  rfl
theorem p1 : batch_Put.f [xa] = some (told, 0) := by unfold batch_Put.f; rw [if_pos t1, t2, if_pos (by decide)]
theorem p2 : batch_Put.f [xb, xa0] = some ([], 2) := by unfold batch_Put.f; rw [t3, if_neg Bool.false_ne_true]
theorem p3 : batch_Get.f told = some ([xa], 0) := by unfold batch_Get.f; rw [if_pos (by decide), t8]
theorem p4 : batch_Apply.f [ra] [xg, xb8] = some ([rb], 0) := by unfold batch_Apply.f; rw [if_pos (by decide), t5, t4, t7]; rfl
theorem p5 : cohortref00_Same.f told told = some true := by unfold cohortref00_Same.f; rw [beq_self_eq_true]
theorem p7 : cohortref00_Rows.f 3 [rb] [rb] = some true := by
  unfold cohortref00_Rows.f cohortref00_Rows.l0 cohortref00_Rows.l0
  simp [cohortref00_Same.f, wrap64, rd_T161, rb]
theorem C_lit1 {α : Type} {d : Kd α} {W : World} {x : α} {cs : List Value} {e g : Nat} (hg : W.heap.size = g) (hK : d.K (W.alloc (.cells cs.toArray e (0, 0))) x cs) : d.C (W.alloc (.cells cs.toArray e (0, 0))) (some ⟨g, 0, none⟩) 1 [x] := by
  have hl := d.K_len hK
  refine ⟨rfl, by decide, fun _ => ⟨⟨g, 0, none⟩, rfl, fun j p hj => ?_⟩⟩
  have h0 : j = 0 := by
    rcases Nat.eq_zero_or_pos j with h | h
    · exact h
    · rw [List.getElem?_eq_none (by simp; omega)] at hj; cases hj
  subst h0
  obtain rfl : x = p := by simpa using hj
  refine ⟨cs, hl, hK, fun i u hu => ?_⟩
  subst hg
  rw [Nat.zero_mul, Nat.zero_add, add_lit0]
  exact blk_cellk (heap_alloc_new W _) i (by simpa using hu)
theorem C_lit2 {α : Type} {d : Kd α} {W : World} {x y : α} {cs ds : List Value} {e g : Nat} (hg : W.heap.size = g) (hK : d.K (W.alloc (.cells (cs ++ ds).toArray e (0, 0))) x cs) (hL : d.K (W.alloc (.cells (cs ++ ds).toArray e (0, 0))) y ds) : d.C (W.alloc (.cells (cs ++ ds).toArray e (0, 0))) (some ⟨g, 0, none⟩) 2 [x, y] := by
  have hl := d.K_len hK
  have hm := d.K_len hL
  refine ⟨rfl, by decide, fun _ => ⟨⟨g, 0, none⟩, rfl, fun j p hj => ?_⟩⟩
  subst hg
  have hj2 : j = 0 ∨ j = 1 := by
    rcases Nat.lt_or_ge j 2 with h | h
    · omega
    · rw [List.getElem?_eq_none (by simpa using h)] at hj; cases hj
  rcases hj2 with rfl | rfl
  · obtain rfl : x = p := by simpa using hj
    refine ⟨cs, hl, hK, fun i u hu => ?_⟩
    rw [Nat.zero_mul, Nat.zero_add, add_lit0]
    have hi := (List.getElem?_eq_some_iff.1 hu).1
    exact blk_cellk (heap_alloc_new W _) i (by rw [List.getElem?_toArray, List.getElem?_append_left hi]; exact hu)
  · obtain rfl : y = p := by simpa using hj
    refine ⟨ds, hm, hL, fun i u hu => ?_⟩
    rw [Nat.one_mul, add_lit0]
    exact blk_cellk (heap_alloc_new W _) (d.sz + i) (by rw [List.getElem?_toArray, ← hl, List.getElem?_append_right (by omega), Nat.add_sub_cancel_left]; exact hu)
theorem drawn0_below {w w' : World} (h : Drawn0 w w') : Below w.heap.size w w' := by
  obtain ⟨n, rfl⟩ := h
  exact pw_below_drewN (Below.refl _ _) n
def cohortlaw09_lives.f : Option Bool := some true
set_option maxHeartbeats 4000000 in
set_option maxRecDepth 100000 in
theorem cohortlaw09_lives.calls (r : Bool) (w : World) (h : cohortlaw09_lives.f = some r) :
    Calls Try.prog 36 #[] w fun e w' => e = .returned (.bool r) ∧ Below w.heap.size w w' := by
  obtain rfl := Option.some.inj h
  clear h
  go_enter Try.func36, Try.ntmps36
  go_upto_region 2 with (fail)
  have c1 := lit_reads w [7] (by decide)
  have HC2 : Hid (Kd.C kChg ((w.alloc (.cells #[.int .u8 7] 5 (0, 0))).alloc (.cells #[.string ⟨#[97]⟩, .slice (some ⟨w.heap.size, 0, none⟩) 1 1, .bool false] 96 (0, 0))) (some ⟨w.heap.size + 1, 0, none⟩) 1 [xa]) := Lib.hid (C_lit1 (by simp) (k96_mk _ xa (by decide) (Kd.C_alloc c1 _)))
  have HB2 : Hid (Below w.heap.size w ((w.alloc (.cells #[.int .u8 7] 5 (0, 0))).alloc (.cells #[.string ⟨#[97]⟩, .slice (some ⟨w.heap.size, 0, none⟩) 1 1, .bool false] 96 (0, 0)))) := Lib.hid (((Below.refl _ _).alloc (Nat.le_refl _) _).alloc (by simp) _)
  obtain ⟨A1, hA1⟩ : ∃ A1, (some ⟨w.heap.size + 1, 0, none⟩ : Option Addr) = A1 := ⟨_, rfl⟩
  rw [hA1] at HC2
  rw [hA1]
  clear hA1 c1
  generalize ((w.alloc (.cells #[.int .u8 7] 5 (0, 0))).alloc (.cells #[.string ⟨#[97]⟩, .slice (some ⟨w.heap.size, 0, none⟩) 1 1, .bool false] 96 (0, 0))) = W2 at HC2 HB2 ⊢
  have K1 := Lib.hid (batch_Put.calls A1 1 [xa] told 0 W2 HC2.out (by decide) p1)
  go_upto_region 3 with (first | (go_at_call 32; refine K1.out.mono ?_; rintro e w3 ⟨v3, rfl, ho3, hb3⟩; have HO3 := Lib.hid (Kd.R_lower ho3 HB2.out.size); have HB3 := Lib.hid (below_step HB2.out hb3); have HC3 := Lib.hid (Kd.C_below HC2.out hb3); clear ho3 hb3))
  obtain ⟨A3, c3, hv3, hl3, hC3⟩ := Kd.R_reads HO3.out
  subst hv3
  have K2 := Lib.hid (batch_Get.calls A3 c3 told [xa] 0 w3 hC3 hl3 p3)
  have HL3 := Lib.hid hl3
  clear hC3 K1 HC2 HB2 hl3
  go_upto_region 4 with (first | (go_at_call 34; refine K2.out.mono ?_; rintro e w4 ⟨v4, rfl, ho4, hb4⟩; have HO4 := Lib.hid (Kd.S_lower ho4 HB3.out.size); have HB4 := Lib.hid (below_step HB3.out hb4); have HC4 := Lib.hid (Kd.C_below HC3.out hb4); have HT4 := Lib.hid (Kd.R_below HO3.out hb4); clear ho4 hb4))
  obtain ⟨A4, c4, hv4⟩ := Kd.S_slice HO4.out
  subst hv4
  have HC4L := Lib.hid (Kd.S_reads' HO4.out).2.1
  clear K2 HC3 HB3 HO3
  have HC5 : Hid (Kd.C kChg (w4.alloc (.cells #[.string ⟨#[98]⟩, .slice none 0 0, .bool false, .string ⟨#[97]⟩, .slice none 0 0, .bool false] 96 (0, 0))) (some ⟨w4.heap.size, 0, none⟩) 2 [xb, xa0]) := Lib.hid (C_lit2 (cs := [.string ⟨#[98]⟩, .slice none 0 0, .bool false]) (ds := [.string ⟨#[97]⟩, .slice none 0 0, .bool false]) rfl (k96_mk _ xb (by decide) ⟨rfl, by decide, fun h => absurd h (by decide)⟩) (k96_mk _ xa0 (by decide) ⟨rfl, by decide, fun h => absurd h (by decide)⟩))
  have K3 := Lib.hid (batch_Put.calls _ 2 [xb, xa0] [] 2 _ HC5.out (by decide) p2)
  have hb5 := (Below.refl w4.heap.size w4).alloc (Nat.le_refl _) (.cells #[.string ⟨#[98]⟩, .slice none 0 0, .bool false, .string ⟨#[97]⟩, .slice none 0 0, .bool false] 96 (0, 0))
  have HB5 := Lib.hid (below_step HB4.out hb5)
  have HO5 := Lib.hid (Kd.S_below HO4.out hb5)
  have HT5 := Lib.hid (Kd.R_below HT4.out hb5)
  have HC5b := Lib.hid (Kd.C_below HC4.out hb5)
  clear hb5 HC5
  go_upto_region 5 with (first | (go_at_call 32; refine K3.out.mono ?_; rintro e w6 ⟨v6, rfl, ho6, hb6⟩; have HB6 := Lib.hid (below_step HB5.out hb6); have HO6 := Lib.hid (Kd.S_below HO5.out hb6); have HT6 := Lib.hid (Kd.R_below HT5.out hb6); have HC6 := Lib.hid (Kd.C_below HC5b.out hb6); clear ho6 hb6))
  clear K3 HB4 HO4 HT4 HC4 HB5 HO5 HT5 HC5b
  have c7 := lit_reads w6 [7] (by decide)
  have c8 : Kd.C (Kd.int .u8) (((w6.alloc (.cells #[.int .u8 7] 5 (0, 0))).alloc (.cells #[.string ⟨#[97]⟩, .slice (some ⟨w6.heap.size, 0, none⟩) 1 1] 161 (0, 0))).alloc (.cells #[.int .u8 8] 5 (0, 0))) (some ⟨w6.heap.size + 2, 0, none⟩) 1 [8] := by have := lit_reads ((w6.alloc (.cells #[.int .u8 7] 5 (0, 0))).alloc (.cells #[.string ⟨#[97]⟩, .slice (some ⟨w6.heap.size, 0, none⟩) 1 1] 161 (0, 0))) [8] (by decide); simp only [World.size_alloc] at this; exact this
  have HR7 : Hid (Kd.C kRow ((((w6.alloc (.cells #[.int .u8 7] 5 (0, 0))).alloc (.cells #[.string ⟨#[97]⟩, .slice (some ⟨w6.heap.size, 0, none⟩) 1 1] 161 (0, 0))).alloc (.cells #[.int .u8 8] 5 (0, 0))).alloc (.cells #[.string ⟨#[97]⟩, .slice none 0 0, .bool true, .string ⟨#[98]⟩, .slice (some ⟨w6.heap.size + 2, 0, none⟩) 1 1, .bool false] 96 (0, 0))) (some ⟨w6.heap.size + 1, 0, none⟩) 1 [ra]) := Lib.hid (Kd.C_alloc (Kd.C_alloc (C_lit1 (by simp) (k161_mk _ ra (by decide) (Kd.C_alloc c7 _))) _) _)
  have HC7 : Hid (Kd.C kChg ((((w6.alloc (.cells #[.int .u8 7] 5 (0, 0))).alloc (.cells #[.string ⟨#[97]⟩, .slice (some ⟨w6.heap.size, 0, none⟩) 1 1] 161 (0, 0))).alloc (.cells #[.int .u8 8] 5 (0, 0))).alloc (.cells #[.string ⟨#[97]⟩, .slice none 0 0, .bool true, .string ⟨#[98]⟩, .slice (some ⟨w6.heap.size + 2, 0, none⟩) 1 1, .bool false] 96 (0, 0))) (some ⟨w6.heap.size + 3, 0, none⟩) 2 [xg, xb8]) := Lib.hid (C_lit2 (cs := [.string ⟨#[97]⟩, .slice none 0 0, .bool true]) (ds := [.string ⟨#[98]⟩, .slice (some ⟨w6.heap.size + 2, 0, none⟩) 1 1, .bool false]) (by simp) (k96_mk _ xg (by decide) ⟨rfl, by decide, fun h => absurd h (by decide)⟩) (k96_mk _ xb8 (by decide) (Kd.C_alloc c8 _)))
  have hb7 : Below w6.heap.size w6 ((((w6.alloc (.cells #[.int .u8 7] 5 (0, 0))).alloc (.cells #[.string ⟨#[97]⟩, .slice (some ⟨w6.heap.size, 0, none⟩) 1 1] 161 (0, 0))).alloc (.cells #[.int .u8 8] 5 (0, 0))).alloc (.cells #[.string ⟨#[97]⟩, .slice none 0 0, .bool true, .string ⟨#[98]⟩, .slice (some ⟨w6.heap.size + 2, 0, none⟩) 1 1, .bool false] 96 (0, 0))) := ((((Below.refl _ _).alloc (Nat.le_refl _) _).alloc (by simp) _).alloc (by simp only [World.size_alloc]; omega) _).alloc (by simp only [World.size_alloc]; omega) _
  have K4 := Lib.hid (batch_Apply.calls _ 1 [ra] _ 2 [xg, xb8] [rb] 0 _ HR7.out (by decide) HC7.out (by decide) p4)
  have HB7 := Lib.hid (below_step HB6.out hb7)
  have HO7 := Lib.hid (Kd.S_below HO6.out hb7)
  have HT7 := Lib.hid (Kd.R_below HT6.out hb7)
  have HC7b := Lib.hid (Kd.C_below HC6.out hb7)
  clear hb7 c7 c8 HR7 HC7
  go_upto_region 6 with (first | (go_at_call 39; refine K4.out.mono ?_; rintro e w8 ⟨v8, rfl, ho8, hb8⟩; have HB8 := Lib.hid (below_step HB7.out hb8); have HC8 := Lib.hid (Kd.C_below HC7b.out hb8); have HR8 := Lib.hid (Kd.S_reads ho8); have HO8 := Lib.hid (Kd.S_reads' (Kd.S_below HO7.out hb8)).2.2; have HT8 := Lib.hid (Kd.R_reads' (Kd.R_below HT7.out hb8)); clear ho8 hb8))
  clear K4 HB6 HO6 HT6 HC6 HB7 HO7 HT7 HC7b
  obtain ⟨A8, c8, hv8, hl8, hC8⟩ := HR8.out
  subst hv8
  have hc12 : Kd.C (Kd.int .u8) (w8.alloc (.cells #[.int .u8 1, .int .u8 0, .int .u8 0, .int .u8 0, .int .u8 1, .int .u8 97, .int .u8 0, .int .u8 1, .int .u8 0, .int .u8 0, .int .u8 0, .int .u8 7] 5 (0, 0))) (some ⟨w8.heap.size, 0, none⟩) 12 told := lit_reads w8 told (by decide)
  have hb12 := (Below.refl w8.heap.size w8).alloc (Nat.le_refl _) (.cells #[.int .u8 1, .int .u8 0, .int .u8 0, .int .u8 0, .int .u8 1, .int .u8 97, .int .u8 0, .int .u8 1, .int .u8 0, .int .u8 0, .int .u8 0, .int .u8 7] 5 (0, 0))
  have KS : Hid (Calls Try.prog 37 #[.slice A3 told.length c3, .slice (some ⟨w8.heap.size, 0, none⟩) 12 12] (w8.alloc (.cells #[.int .u8 1, .int .u8 0, .int .u8 0, .int .u8 0, .int .u8 1, .int .u8 97, .int .u8 0, .int .u8 1, .int .u8 0, .int .u8 0, .int .u8 0, .int .u8 7] 5 (0, 0))) fun e w' => e = .returned (.bool true) ∧ Drawn0 (w8.alloc (.cells #[.int .u8 1, .int .u8 0, .int .u8 0, .int .u8 0, .int .u8 1, .int .u8 97, .int .u8 0, .int .u8 1, .int .u8 0, .int .u8 0, .int .u8 0, .int .u8 7] 5 (0, 0))) w') := Lib.hid (cohortref00_Same.calls A3 c3 told (some ⟨w8.heap.size, 0, none⟩) 12 told true _ (Kd.C_below HT8.out.2.2 hb12) HT8.out.2.1 hc12 (by decide) p5)
  have KH := Lib.hid (fun W (hW : Below w8.heap.size w8 W) => changes_same A4 c4 A1 1 [xa] W (Kd.C_below HO8.out hW) (Kd.C_below HC8.out hW))
  have KR : Hid (∀ W, Below w8.heap.size w8 W → Calls Try.prog 45 #[.slice A8 [rb].length c8, .slice (some ⟨W.heap.size + 1, 0, none⟩) 1 1] ((W.alloc (.cells #[.int .u8 8] 5 (0, 0))).alloc (.cells #[.string ⟨#[98]⟩, .slice (some ⟨W.heap.size, 0, none⟩) 1 1] 161 (0, 0))) fun e w' => e = .returned (.bool true) ∧ Drawn0 ((W.alloc (.cells #[.int .u8 8] 5 (0, 0))).alloc (.cells #[.string ⟨#[98]⟩, .slice (some ⟨W.heap.size, 0, none⟩) 1 1] 161 (0, 0))) w') := Lib.hid (fun W hW =>
    cohortref00_Rows.calls 3 A8 c8 [rb] _ 1 [rb] true _ (Kd.C_alloc (Kd.C_alloc (Kd.C_below hC8 hW) _) _) hl8 (C_lit1 (by simp) (k161_mk _ rb (by decide) (Kd.C_alloc (lit_reads W [8] (by decide)) _))) (by decide) p7)
  have HB12 := Lib.hid hb12
  clear hc12 hb12 hC8 hl8
  go_wp2_with (first
    | (go_at_call 37; refine KS.out.mono ?_; rintro e w9 ⟨rfl, hd⟩; have HB9 := Lib.hid (below_step HB12.out (drawn0_below hd)); clear hd)
    | (go_at_call 35; refine (KH.out _ HB9.out).mono ?_; rintro e w10 ⟨rfl, hb⟩; have HB10 := Lib.hid (below_step HB9.out hb); clear hb)
    | (go_at_call 45; refine (KR.out _ HB10.out).mono ?_; rintro e w11 ⟨rfl, hd⟩; have HB11 := Lib.hid (below_step (below_step HB10.out (((Below.refl _ _).alloc (Nat.le_refl _) _).alloc (by simp) _)) (drawn0_below hd)); clear hd))
  go_ret
  exact ⟨rfl, below_step HB8.out HB11.out⟩
end Go.Proofs.Ytaoflcmjmhfblaa.D
