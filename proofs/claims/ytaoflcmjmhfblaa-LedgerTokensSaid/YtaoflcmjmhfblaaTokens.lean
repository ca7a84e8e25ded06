/- The law LedgerTokens, walked. -/
import Derived.Test.YtaoflcmjmhfblaaLedgerP
import Derived.Test.YtaoflcmjmhfblaaQ5
namespace Go.Proofs.Ytaoflcmjmhfblaa.Q
open Go.RowKit Go.Proofs.YtaoflcmjmhfblaaW.PrintWords Go.Proofs.YtaoflcmjmhfblaaW.PrintLast Go.Proofs.YtaoflcmjmhfblaaW.PrintMore Go.Proofs.Ytaoflcmjmhfblaa.H Go.Shelf
set_option linter.unusedVariables false
set_option linter.unusedSimpArgs false
def findV (l : List OpenS) (t : Int) : OpenS := (l.find? (isTok t)).getD z61
theorem below_set0 {w W : World} {p : Addr} {v : Value} (h : Below w.heap.size w W) (hp : w.heap.size ≤ p.block) : Below w.heap.size w (W.setCell p v) := h.setCell hp v
theorem heap_le0 {w W : World} (h : Below w.heap.size w W) : w.heap.size ≤ W.heap.size := h.size
theorem findc (A : Option Addr) (c : Nat) (l : List OpenS) (t : Int) (w : World) (h : Kd.C k61 w A l.length l) (hc : l.length ≤ c) :
    Calls Try.prog 26 #[.slice A l.length c, .int .u64 t] w fun e w' => e = .returned (.tuple #[vOpen (findV l t), .bool (l.find? (isTok t)).isSome]) ∧ Below w.heap.size w w' := by
  unfold findV
  cases hf : l.find? (isTok t) with
  | none => exact ledger_Find.calls A c l t 0 0 0 false 0 0 0 false 0 false w h hc (by unfold ledger_Find.f; rw [hf])
  | some x => exact ledger_Find.calls A c l t x.f0.f0 x.f0.f1 x.f0.f2 x.f0.f3 x.f0.f4 x.f1 x.f2 x.f3 x.f4 true w h hc (by unfold ledger_Find.f; rw [hf])
theorem ask_cases {xs : List OpenS} {last : Int} (o : OpenS) (h : MayL xs last) (h0 : 0 ≤ last) : (∃ er : Int, askL xs last o = ([], 0, er) ∧ (er == 0) = false) ∨ (askL xs last o = (xs ++ [askTok o (last + 1)], last + 1, 0) ∧ MayL (xs ++ [askTok o (last + 1)]) (last + 1) ∧ last < 4611686018427387904) := by
  unfold askL
  by_cases c1 : ¬ MayL xs last ∨ 4611686018427387904 ≤ last ∨ mayO o = false
  · rw [if_pos c1]; exact .inl ⟨2, rfl, rfl⟩
  · rw [if_neg c1]
    by_cases c2 : lau o = false ∧ xs.any (twin o) = true
    · rw [if_pos c2]; exact .inl ⟨8, rfl, rfl⟩
    · rw [if_neg c2]
      by_cases c3 : lau o = true ∧ (xs.filter lau).length = 4096
      · rw [if_pos c3]; exact .inl ⟨10, rfl, rfl⟩
      · rw [if_neg c3]
        refine .inr ⟨rfl, may_ask h ?_ c2 c3 h0, ?_⟩
        · cases hm : mayO o with
          | true => rfl
          | false => exact absurd (.inr (.inr hm)) c1
        · rcases Int.lt_or_le last 4611686018427387904 with q | q
          · exact q
          · exact absurd (.inr (.inl q)) c1
attribute [local go_sem high] eqA61
set_option maxHeartbeats 16000000 in
set_option maxRecDepth 100000 in
theorem tokens_walk (A : Option Addr) (c : Nat) (l : List S63) (w : World) (h : Kd.C k63 w A l.length l) (hlv : ∀ W, Calls Try.prog 31 #[] W fun e w' => e = .returned (.bool true) ∧ Below W.heap.size W w') :
    Calls Try.prog 7 #[.slice A l.length c] w fun e w' => e = .returned (.bool true) ∧ Below w.heap.size w w' := by
  have hm := Kd.C_max h
  obtain ⟨n, hn⟩ : ∃ n, l.length = n := ⟨_, rfl⟩
  rw [hn] at h hm ⊢
  have H := Lib.hid h
  have HN := Lib.hid hn
  have HLV := Lib.hid hlv
  clear h hn hlv
  go_enter Try.func7, Try.ntmps7
  go_wp2
  go_loopw [3, 4, 5] (fun v3 v4 v5 wr => ∃ (i : Nat) (xs : List OpenS) (last : Int) (A1 : Option Addr) (c1 : Nat), i ≤ n ∧ i ≤ 60 ∧ xs.length ≤ i ∧ 0 ≤ last ∧ v3 = .slice A1 xs.length c1 ∧ v4 = .int .u64 last ∧ v5 = .int .i64 i ∧ Hid (MayL xs last) ∧ Hid (Kd.R k61 61 wr w.heap.size (fun _ => True) (.slice A1 xs.length c1) xs) ∧ Hid (Below w.heap.size w wr)) (fun _ _ v5 _ => 60 - (intOf v5).toNat)
  case atStart => exact ⟨0, [], 0, none, 0, by omega, by omega, by simp, by omega, rfl, rfl, rfl, Lib.hid (may_nil 0), Lib.hid (Kd.R_nil _ _ _ _ _), Lib.hid (Below.refl _ _)⟩
  case round =>
    obtain ⟨i, xs, last, A1, c1, hin, hi60, hxl, hl0, rfl, rfl, rfl, HMY, HO, HB⟩ := hrel
    by_cases hlt : i < n
    · by_cases hlt6 : i < 60
      · obtain ⟨y, hy⟩ : ∃ y, rd_T63 l (i : Int) = y := ⟨_, rfl⟩
        obtain ⟨ad, rfl⟩ : ∃ ad, A = some ad := by
          obtain ⟨ad, e, _⟩ := at_T63 H.out (i : Int) (by omega) (by omega)
          exact ⟨ad, e⟩
        have hat : ∀ W, Below w.heap.size w W → W.cell? (ad.add (i * 11)) = some (.int .i64 y.f0) ∧ (∀ j v, (#[.int .u8 y.f1.f0.f0, .int .u64 y.f1.f0.f1, .int .i64 y.f1.f0.f2, .bool y.f1.f0.f3, .int .u64 y.f1.f0.f4, .int .u64 y.f1.f1, .int .i64 y.f1.f2, .bool y.f1.f3, .int .u32 y.f1.f4].toList : List Value)[j]? = some v → W.cell? (({ block := (ad.add (i * 11)).block, off := (ad.add (i * 11)).off + 1, spot := none } : Addr).add j) = some v) ∧ W.cell? ⟨(ad.add (i * 11)).block, (ad.add (i * 11)).off + 5, none⟩ = some (.int .u64 y.f1.f0.f4) ∧ W.cell? ⟨(ad.add (i * 11)).block, (ad.add (i * 11)).off + 10, none⟩ = some (.int .u64 y.f2) := by
          intro W hW
          obtain ⟨ad', e, q0, q1, q2, q3, q4, q5, q6, q7, q8, q9, q10⟩ := at_T63 (Kd.C_below H.out hW) (i : Int) (by omega) (by omega)
          cases e
          rw [hy, Int.toNat_natCast] at q0 q1 q2 q3 q4 q5 q6 q7 q8 q9 q10
          refine ⟨q0, fun j v hj => ?_, q5, q10⟩
          have e : ∀ k, (({ block := (ad.add (i * 11)).block, off := (ad.add (i * 11)).off + 1, spot := none } : Addr).add k) = ⟨(ad.add (i * 11)).block, (ad.add (i * 11)).off + (1 + k), none⟩ := by
            intro k
            unfold Addr.add
            by_cases hk : k = 0
            · subst hk; simp
            · simp [hk, Nat.add_assoc]
          rw [e]
          match j, hj with
          | 0, hj => cases hj; exact q1
          | 1, hj => cases hj; exact q2
          | 2, hj => cases hj; exact q3
          | 3, hj => cases hj; exact q4
          | 4, hj => cases hj; exact q5
          | 5, hj => cases hj; exact q6
          | 6, hj => cases hj; exact q7
          | 7, hj => cases hj; exact q8
          | 8, hj => cases hj; exact q9
          | j + 9, hj => simp at hj
        have HD0 := Lib.hid (fun W hW => (hat W hW).1)
        have HCO := Lib.hid (fun W hW => (hat W hW).2.1)
        have HD6 := Lib.hid (fun W hW => (hat W hW).2.2.1)
        have HD2 := Lib.hid (fun W hW => (hat W hW).2.2.2)
        clear hat hy
        have hd0 := HD0.out _ HB.out
        have hd2 := HD2.out _ HB.out
        have hd6 := HD6.out _ HB.out
        obtain ⟨_, hlc1, hC1⟩ := Kd.R_reads' HO.out
        have KA0 := ask_walk A1 c1 xs last y.f1 wr hC1 hlc1 (by omega) hl0
        have HBr := Lib.hid (Below.refl wr.heap.size wr)
        have HBr0 := HB
        by_cases hdo : y.f0 = 0
        · rw [hdo] at hd0
          rw [hdo] at HD0
          rcases ask_cases y.f1 HMY.out hl0 with ⟨er, he, her⟩ | ⟨he, hmy, hlast⟩
          · rw [he] at KA0
            simp only [vOpen] at KA0
            have KA := Lib.hid KA0
            have her2 : (er != 0) = true := by simpa [bne] using her
            have HC1 := Lib.hid hC1
            clear KA0 he hdo hC1
            go_wp2_with (first | ((with_reducible refine gate_load 61 rfl ?_); refine wpList_load_any rfl 61 _ rfl _ rfl _ _ (HCO.out _ (by repeat (first | exact HB.out | apply below_alloc))) Try.underlying61 rfl (by kernel_rfl) ?_) | (go_at_call 25; (with_reducible refine (KA.out).mono ?_); rintro e w2 ⟨v2, rfl, ho2, hb2⟩; have HB' := Lib.hid (below_step (by repeat (first | exact HB.out | apply below_alloc)) hb2); clear HB; have HB := HB'; clear HB'; have HBr' := Lib.hid (below_step (by repeat (first | exact HBr.out | apply below_alloc)) hb2); clear HBr; have HBr := HBr'; clear HBr' hb2; have HO2 := Lib.hid ho2; clear ho2; obtain ⟨A2, c2, hv2, hc2, hr2⟩ := Kd.R_reads HO2.out; subst hv2; have HC2 := Lib.hid (And.intro hc2 hr2); clear hc2 hr2; have HBq := Lib.hid (Below.refl w2.heap.size w2); have hd0 := HD0.out _ (by repeat (first | exact HB.out | apply below_alloc)); have hd2 := HD2.out _ (by repeat (first | exact HB.out | apply below_alloc)); have hd6 := HD6.out _ (by repeat (first | exact HB.out | apply below_alloc))))
            all_goals first
              | (exfalso; omega)
              | exact ⟨⟨i + 1, xs, last, A1, c1, by omega, by omega, by omega, hl0, rfl, rfl, by go_num, HMY, Lib.hid (Kd.R_below HO.out HBr.out), HB⟩, by simp only [intOf]; omega⟩
          · rw [he] at KA0
            obtain ⟨Y, hY⟩ : ∃ Y, xs ++ [askTok y.f1 (last + 1)] = Y := ⟨_, rfl⟩
            have hfnd := find_ask (o := y.f1) HMY.out
            rw [hY] at KA0 hmy hfnd
            have hyl : Y.length = xs.length + 1 := by rw [← hY]; simp
            have hn1 : ((Y.length : Int) != (xs.length : Int) + 1) = false := by rw [bne_eq_false_iff_eq]; omega
            have hn2 : (Y.length != xs.length + 1) = false := by rw [bne_eq_false_iff_eq]; exact hyl
            have w1e : IntKind.i64.wrap ((xs.length : Int) + 1) = (xs.length : Int) + 1 := by rw [IntKind.wrap_i64]; omega
            have KF := Lib.hid (fun W A2 c2 (hc : Y.length ≤ c2) (hC : Kd.C k61 W A2 Y.length Y) => (by have h1 := findc A2 c2 Y (last + 1) W hC hc; unfold findV at h1; rw [hfnd] at h1; simpa only [vOpen, askTok, Option.getD_some, Option.isSome_some] using h1 : Calls Try.prog 26 #[.slice A2 Y.length c2, .int .u64 (last + 1)] W fun e w' => e = .returned (.tuple #[.agg #[.int .u8 y.f1.f0.f0, .int .u64 (last + 1), .int .i64 y.f1.f0.f2, .bool y.f1.f0.f3, .int .u64 y.f1.f0.f4, .int .u64 y.f1.f1, .int .i64 y.f1.f2, .bool y.f1.f3, .int .u32 y.f1.f4], .bool true]) ∧ Below W.heap.size W w'))
            have KM := Lib.hid (fun W A2 c2 (hc : Y.length ≤ c2) (hC : Kd.C k61 W A2 Y.length Y) => (by have h1 := mayLc A2 c2 Y (last + 1) W hC hc; rw [decide_eq_true hmy] at h1; exact h1 : Calls Try.prog 30 #[.slice A2 Y.length c2, .int .u64 (last + 1)] W fun e w' => e = .returned (.bool true) ∧ Below W.heap.size W w'))
            simp only [vOpen] at KA0
            have KA := Lib.hid KA0
            have HYL := Lib.hid hyl
            have HMY2 := Lib.hid hmy
            clear KA0 he hdo hC1 hY hfnd hyl hmy
            go_wp2_with (first | ((with_reducible refine gate_load 61 rfl ?_); refine wpList_load_any rfl 61 _ rfl _ rfl _ _ (HCO.out _ (by repeat (first | exact HB.out | apply below_alloc))) Try.underlying61 rfl (by kernel_rfl) ?_) | ((with_reducible refine gate_storeT 61 rfl ?_); refine wpList_store_row rfl 61 _ _ rfl _ _ rfl rfl 61 _ (heap_alloc_new _ _) (by kernel_rfl) rfl (by simp [Value.oneCell']) ?_; rw [setRow_alloc]) | (go_at_call 25; (with_reducible refine (KA.out).mono ?_); rintro e w2 ⟨v2, rfl, ho2, hb2⟩; have HB' := Lib.hid (below_step (by repeat (first | exact HB.out | apply below_alloc)) hb2); clear HB; have HB := HB'; clear HB'; have HBr' := Lib.hid (below_step (by repeat (first | exact HBr.out | apply below_alloc)) hb2); clear HBr; have HBr := HBr'; clear HBr' hb2; have HO2 := Lib.hid ho2; clear ho2; obtain ⟨A2, c2, hv2, hc2, hr2⟩ := Kd.R_reads HO2.out; subst hv2; have HC2 := Lib.hid (And.intro hc2 hr2); clear hc2 hr2; have HBq := Lib.hid (Below.refl w2.heap.size w2); have hd0 := HD0.out _ (by repeat (first | exact HB.out | apply below_alloc)); have hd2 := HD2.out _ (by repeat (first | exact HB.out | apply below_alloc)); have hd6 := HD6.out _ (by repeat (first | exact HB.out | apply below_alloc))) | (go_at_call 26; (with_reducible refine (KF.out _ _ _ HC2.out.1 (Kd.C_below HC2.out.2 (by repeat (first | exact HBq.out | apply below_alloc | apply below_set0)))).mono ?_); rintro e w2 ⟨rfl, hb2⟩; have HBq' := Lib.hid (below_step (by repeat (first | exact HBq.out | apply below_alloc | apply below_set0)) hb2); clear HBq; have HBq := HBq'; clear HBq'; have HB' := Lib.hid (below_step (by repeat (first | exact HB.out | apply below_alloc)) hb2); clear HB; have HB := HB'; clear HB'; have HBr' := Lib.hid (below_step (by repeat (first | exact HBr.out | apply below_alloc)) hb2); clear HBr; have HBr := HBr'; clear HBr' hb2; have hd0 := HD0.out _ (by repeat (first | exact HB.out | apply below_alloc)); have hd2 := HD2.out _ (by repeat (first | exact HB.out | apply below_alloc)); have hd6 := HD6.out _ (by repeat (first | exact HB.out | apply below_alloc))) | (go_at_call 30; (with_reducible refine (KM.out _ _ _ HC2.out.1 (Kd.C_below HC2.out.2 (by repeat (first | exact HBq.out | apply below_alloc | apply below_set0)))).mono ?_); rintro e w2 ⟨rfl, hb2⟩; have HBq' := Lib.hid (below_step (by repeat (first | exact HBq.out | apply below_alloc | apply below_set0)) hb2); clear HBq; have HBq := HBq'; clear HBq'; have HB' := Lib.hid (below_step (by repeat (first | exact HB.out | apply below_alloc)) hb2); clear HB; have HB := HB'; clear HB'; have HBr' := Lib.hid (below_step (by repeat (first | exact HBr.out | apply below_alloc)) hb2); clear HBr; have HBr := HBr'; clear HBr' hb2; have hd0 := HD0.out _ (by repeat (first | exact HB.out | apply below_alloc)); have hd2 := HD2.out _ (by repeat (first | exact HB.out | apply below_alloc)); have hd6 := HD6.out _ (by repeat (first | exact HB.out | apply below_alloc))))
            all_goals first
              | (exfalso; omega)
              | exact ⟨⟨i + 1, Y, last + 1, A2, c2, by omega, by omega, by have := HYL.out; omega, by omega, rfl, rfl, by go_num, HMY2, Lib.hid (Kd.R_lower (Kd.R_below HO2.out HBq.out) (heap_le0 HBr0.out)), HB⟩, by simp only [intOf]; omega⟩
        · clear KA0
          have HC1 := Lib.hid hC1
          have KMof := Lib.hid (fun (Y : List OpenS) (hmy : MayL Y last) W A2 c2 (hc : Y.length ≤ c2) (hC : Kd.C k61 W A2 Y.length Y) => (by have h1 := mayLc A2 c2 Y last W hC hc; rw [decide_eq_true hmy] at h1; exact h1 : Calls Try.prog 30 #[.slice A2 Y.length c2, .int .u64 last] W fun e w' => e = .returned (.bool true) ∧ Below W.heap.size W w'))
          by_cases hdo1 : y.f0 = 1
          · rw [hdo1] at hd0
            rw [hdo1] at HD0
            clear hdo
            have KFof := Lib.hid (fun (Y : List OpenS) (hno : Y.find? (isTok y.f2) = none) W A2 c2 (hc : Y.length ≤ c2) (hC : Kd.C k61 W A2 Y.length Y) => (by have h1 := findc A2 c2 Y y.f2 W hC hc; unfold findV at h1; rw [hno] at h1; exact h1 : Calls Try.prog 26 #[.slice A2 Y.length c2, .int .u64 y.f2] W fun e w' => e = .returned (.tuple #[.agg #[.int .u8 0, .int .u64 0, .int .i64 0, .bool false, .int .u64 0, .int .u64 0, .int .i64 0, .bool false, .int .u32 0], .bool false]) ∧ Below W.heap.size W w'))
            rcases find_any (isTok y.f2) xs with ⟨e1, x, e2⟩ | ⟨e1, e2⟩
            · clear e2 x
              have hcl := find_closed xs y.f2
              have hmy := may_filter (fun x => !isTok y.f2 x) HMY.out
              have KC0 := ledger_Close.calls A1 c1 xs y.f2 (xs.filter (fun x => !isTok y.f2 x)) 0 wr hC1 hlc1 (by unfold ledger_Close.f; rw [if_pos (by omega), e1]; rfl)
              have hle := List.length_filter_le (fun x => !isTok y.f2 x) xs
              obtain ⟨Y, hY⟩ : ∃ Y, xs.filter (fun x => !isTok y.f2 x) = Y := ⟨_, rfl⟩
              rw [hY] at KC0 hcl hmy hle
              have KC := Lib.hid KC0
              have KF := Lib.hid (KFof.out Y hcl)
              have KM := Lib.hid (KMof.out Y hmy)
              have HMY2 := Lib.hid hmy
              clear KC0 hcl hY hmy hdo1 e1 hC1 KFof KMof
              go_wp2_with (first | (go_at_call 27; (with_reducible refine (KC.out).mono ?_); rintro e w2 ⟨v2, rfl, ho2, hb2⟩; have HB' := Lib.hid (below_step (by repeat (first | exact HB.out | apply below_alloc)) hb2); clear HB; have HB := HB'; clear HB'; have HBr' := Lib.hid (below_step (by repeat (first | exact HBr.out | apply below_alloc)) hb2); clear HBr; have HBr := HBr'; clear HBr' hb2; have HO2 := Lib.hid ho2; clear ho2; obtain ⟨A2, c2, hv2, hc2, hr2⟩ := Kd.R_reads HO2.out; subst hv2; have HC2 := Lib.hid (And.intro hc2 hr2); clear hc2 hr2; have HBq := Lib.hid (Below.refl w2.heap.size w2); have hd0 := HD0.out _ (by repeat (first | exact HB.out | apply below_alloc)); have hd2 := HD2.out _ (by repeat (first | exact HB.out | apply below_alloc)); have hd6 := HD6.out _ (by repeat (first | exact HB.out | apply below_alloc))) | (go_at_call 26; (with_reducible refine (KF.out _ _ _ HC2.out.1 (Kd.C_below HC2.out.2 (by repeat (first | exact HBq.out | apply below_alloc | apply below_set0)))).mono ?_); rintro e w2 ⟨rfl, hb2⟩; have HBq' := Lib.hid (below_step (by repeat (first | exact HBq.out | apply below_alloc | apply below_set0)) hb2); clear HBq; have HBq := HBq'; clear HBq'; have HB' := Lib.hid (below_step (by repeat (first | exact HB.out | apply below_alloc)) hb2); clear HB; have HB := HB'; clear HB'; have HBr' := Lib.hid (below_step (by repeat (first | exact HBr.out | apply below_alloc)) hb2); clear HBr; have HBr := HBr'; clear HBr' hb2; have hd0 := HD0.out _ (by repeat (first | exact HB.out | apply below_alloc)); have hd2 := HD2.out _ (by repeat (first | exact HB.out | apply below_alloc)); have hd6 := HD6.out _ (by repeat (first | exact HB.out | apply below_alloc))) | (go_at_call 30; (with_reducible refine (KM.out _ _ _ HC2.out.1 (Kd.C_below HC2.out.2 (by repeat (first | exact HBq.out | apply below_alloc | apply below_set0)))).mono ?_); rintro e w2 ⟨rfl, hb2⟩; have HBq' := Lib.hid (below_step (by repeat (first | exact HBq.out | apply below_alloc | apply below_set0)) hb2); clear HBq; have HBq := HBq'; clear HBq'; have HB' := Lib.hid (below_step (by repeat (first | exact HB.out | apply below_alloc)) hb2); clear HB; have HB := HB'; clear HB'; have HBr' := Lib.hid (below_step (by repeat (first | exact HBr.out | apply below_alloc)) hb2); clear HBr; have HBr := HBr'; clear HBr' hb2; have hd0 := HD0.out _ (by repeat (first | exact HB.out | apply below_alloc)); have hd2 := HD2.out _ (by repeat (first | exact HB.out | apply below_alloc)); have hd6 := HD6.out _ (by repeat (first | exact HB.out | apply below_alloc))))
              all_goals first
                | (exfalso; omega)
                | exact ⟨⟨i + 1, Y, last, A2, c2, by omega, by omega, by omega, by omega, rfl, rfl, by go_num, HMY2, Lib.hid (Kd.R_lower (Kd.R_below HO2.out HBq.out) (heap_le0 HBr0.out)), HB⟩, by simp only [intOf]; omega⟩
                | trace_state
            · have KC0 := ledger_Close.calls A1 c1 xs y.f2 [] 7 wr hC1 hlc1 (by unfold ledger_Close.f; rw [if_pos (by omega), e1]; rfl)
              have KF0 : ([] : List OpenS).find? (isTok y.f2) = none := rfl
              obtain ⟨Y, hY⟩ : ∃ Y, ([] : List OpenS) = Y := ⟨_, rfl⟩
              rw [hY] at KC0 KF0
              have KC := Lib.hid KC0
              have KF := Lib.hid (KFof.out Y KF0)
              clear KC0 KF0 hY
              have KM := Lib.hid (KMof.out xs HMY.out)
              clear hdo1 e1 e2 hC1 KFof KMof
              go_wp2_with (first | (go_at_call 27; (with_reducible refine (KC.out).mono ?_); rintro e w2 ⟨v2, rfl, ho2, hb2⟩; have HB' := Lib.hid (below_step (by repeat (first | exact HB.out | apply below_alloc)) hb2); clear HB; have HB := HB'; clear HB'; have HBr' := Lib.hid (below_step (by repeat (first | exact HBr.out | apply below_alloc)) hb2); clear HBr; have HBr := HBr'; clear HBr' hb2; have HO2 := Lib.hid ho2; clear ho2; obtain ⟨A2, c2, hv2, hc2, hr2⟩ := Kd.R_reads HO2.out; subst hv2; have HC2 := Lib.hid (And.intro hc2 hr2); clear hc2 hr2; have HBq := Lib.hid (Below.refl w2.heap.size w2); have hd0 := HD0.out _ (by repeat (first | exact HB.out | apply below_alloc)); have hd2 := HD2.out _ (by repeat (first | exact HB.out | apply below_alloc)); have hd6 := HD6.out _ (by repeat (first | exact HB.out | apply below_alloc))) | (go_at_call 26; (with_reducible refine (KF.out _ _ _ HC2.out.1 (Kd.C_below HC2.out.2 (by repeat (first | exact HBq.out | apply below_alloc | apply below_set0)))).mono ?_); rintro e w2 ⟨rfl, hb2⟩; have HBq' := Lib.hid (below_step (by repeat (first | exact HBq.out | apply below_alloc | apply below_set0)) hb2); clear HBq; have HBq := HBq'; clear HBq'; have HB' := Lib.hid (below_step (by repeat (first | exact HB.out | apply below_alloc)) hb2); clear HB; have HB := HB'; clear HB'; have HBr' := Lib.hid (below_step (by repeat (first | exact HBr.out | apply below_alloc)) hb2); clear HBr; have HBr := HBr'; clear HBr' hb2; have hd0 := HD0.out _ (by repeat (first | exact HB.out | apply below_alloc)); have hd2 := HD2.out _ (by repeat (first | exact HB.out | apply below_alloc)); have hd6 := HD6.out _ (by repeat (first | exact HB.out | apply below_alloc))) | (go_at_call 30; (with_reducible refine (KM.out _ _ _ hlc1 (Kd.C_below HC1.out (by repeat (first | exact HBr.out | apply below_alloc | apply below_set0)))).mono ?_); rintro e w2 ⟨rfl, hb2⟩; have HBq' := Lib.hid (below_step (by repeat (first | exact HBq.out | apply below_alloc | apply below_set0)) hb2); clear HBq; have HBq := HBq'; clear HBq'; have HB' := Lib.hid (below_step (by repeat (first | exact HB.out | apply below_alloc)) hb2); clear HB; have HB := HB'; clear HB'; have HBr' := Lib.hid (below_step (by repeat (first | exact HBr.out | apply below_alloc)) hb2); clear HBr; have HBr := HBr'; clear HBr' hb2; have hd0 := HD0.out _ (by repeat (first | exact HB.out | apply below_alloc)); have hd2 := HD2.out _ (by repeat (first | exact HB.out | apply below_alloc)); have hd6 := HD6.out _ (by repeat (first | exact HB.out | apply below_alloc))))
              all_goals first
                | (exfalso; omega)
                | exact ⟨⟨i + 1, xs, last, A1, c1, by omega, by omega, by omega, hl0, rfl, rfl, by go_num, HMY, Lib.hid (Kd.R_below HO.out HBr.out), HB⟩, by simp only [intOf]; omega⟩
                | trace_state
          · have hab := about_forgot xs y.f1.f0.f4
            have hmy := may_filter (fun x => !isAbout y.f1.f0.f4 x) HMY.out
            have KG0 := ledger_Forget.calls A1 c1 xs y.f1.f0.f4 (xs.filter (fun x => !isAbout y.f1.f0.f4 x)) wr hC1 hlc1 (by unfold ledger_Forget.f; rw [if_pos (by omega)])
            have hle := List.length_filter_le (fun x => !isAbout y.f1.f0.f4 x) xs
            obtain ⟨Y, hY⟩ : ∃ Y, xs.filter (fun x => !isAbout y.f1.f0.f4 x) = Y := ⟨_, rfl⟩
            rw [hY] at KG0 hab hmy hle
            have KG := Lib.hid KG0
            have KB := Lib.hid (fun W A2 c2 (hc : Y.length ≤ c2) (hC : Kd.C k61 W A2 Y.length Y) => ledger_About.calls A2 c2 Y y.f1.f0.f4 [] W hC hc (by unfold ledger_About.f; rw [if_pos (by omega), hab]))
            have KM := Lib.hid (KMof.out Y hmy)
            have HMY2 := Lib.hid hmy
            have hd01 : (y.f0 == 0) = false := by simpa using hdo
            have hd02 : (y.f0 == 1) = false := by simpa using hdo1
            clear KG0 hY hmy hab hdo hdo1 hC1 KMof
            go_wp2_with (first | (go_at_call 28; (with_reducible refine (KG.out).mono ?_); rintro e w2 ⟨v2, rfl, ho2, hb2⟩; have HB' := Lib.hid (below_step (by repeat (first | exact HB.out | apply below_alloc)) hb2); clear HB; have HB := HB'; clear HB'; have HBr' := Lib.hid (below_step (by repeat (first | exact HBr.out | apply below_alloc)) hb2); clear HBr; have HBr := HBr'; clear HBr' hb2; have HO2 := Lib.hid ho2; clear ho2; obtain ⟨A2, c2, hv2, hc2, hr2⟩ := Kd.R_reads HO2.out; subst hv2; have HC2 := Lib.hid (And.intro hc2 hr2); clear hc2 hr2; have HBq := Lib.hid (Below.refl w2.heap.size w2); have hd0 := HD0.out _ (by repeat (first | exact HB.out | apply below_alloc)); have hd2 := HD2.out _ (by repeat (first | exact HB.out | apply below_alloc)); have hd6 := HD6.out _ (by repeat (first | exact HB.out | apply below_alloc))) | (go_at_call 29; (with_reducible refine (KB.out _ _ _ HC2.out.1 (Kd.C_below HC2.out.2 (by repeat (first | exact HBq.out | apply below_alloc | apply below_set0)))).mono ?_); rintro e w2 ⟨v3, rfl, ho3, hb2⟩; have HBq' := Lib.hid (below_step (by repeat (first | exact HBq.out | apply below_alloc | apply below_set0)) hb2); clear HBq; have HBq := HBq'; clear HBq'; have HB' := Lib.hid (below_step (by repeat (first | exact HB.out | apply below_alloc)) hb2); clear HB; have HB := HB'; clear HB'; have HBr' := Lib.hid (below_step (by repeat (first | exact HBr.out | apply below_alloc)) hb2); clear HBr; have HBr := HBr'; clear HBr' hb2; obtain ⟨A3, c3, hv3, hc3, hr3⟩ := Kd.R_reads ho3; subst hv3; clear hc3 hr3 ho3; have hd0 := HD0.out _ (by repeat (first | exact HB.out | apply below_alloc)); have hd2 := HD2.out _ (by repeat (first | exact HB.out | apply below_alloc)); have hd6 := HD6.out _ (by repeat (first | exact HB.out | apply below_alloc))) | (go_at_call 30; (with_reducible refine (KM.out _ _ _ HC2.out.1 (Kd.C_below HC2.out.2 (by repeat (first | exact HBq.out | apply below_alloc | apply below_set0)))).mono ?_); rintro e w2 ⟨rfl, hb2⟩; have HBq' := Lib.hid (below_step (by repeat (first | exact HBq.out | apply below_alloc | apply below_set0)) hb2); clear HBq; have HBq := HBq'; clear HBq'; have HB' := Lib.hid (below_step (by repeat (first | exact HB.out | apply below_alloc)) hb2); clear HB; have HB := HB'; clear HB'; have HBr' := Lib.hid (below_step (by repeat (first | exact HBr.out | apply below_alloc)) hb2); clear HBr; have HBr := HBr'; clear HBr' hb2; have hd0 := HD0.out _ (by repeat (first | exact HB.out | apply below_alloc)); have hd2 := HD2.out _ (by repeat (first | exact HB.out | apply below_alloc)); have hd6 := HD6.out _ (by repeat (first | exact HB.out | apply below_alloc))))
            all_goals first
              | (exfalso; omega)
              | exact ⟨⟨i + 1, Y, last, A2, c2, by omega, by omega, by omega, by omega, rfl, rfl, by go_num, HMY2, Lib.hid (Kd.R_lower (Kd.R_below HO2.out HBq.out) (heap_le0 HBr0.out)), HB⟩, by simp only [intOf]; omega⟩
              | trace_state
      · have : i = 60 := by omega
        subst this
        go_wp2_with (first | (go_at_call 31; (with_reducible refine (HLV.out _).mono ?_); rintro e w2 ⟨rfl, hb2⟩; have HBL := Lib.hid (below_step HB.out hb2); clear hb2))
        all_goals first
          | (exfalso; omega)
          | (go_ret; exact ⟨rfl, HBL.out⟩)
    · have : i = n := by omega
      subst this
      go_wp2_with (first | (go_at_call 31; (with_reducible refine (HLV.out _).mono ?_); rintro e w2 ⟨rfl, hb2⟩; have HBL := Lib.hid (below_step HB.out hb2); clear hb2))
      all_goals first
        | (exfalso; omega)
        | (go_ret; exact ⟨rfl, HBL.out⟩)
end Go.Proofs.Ytaoflcmjmhfblaa.Q
