/- ledger.Ask itself. -/
import Derived.Test.YtaoflcmjmhfblaaGLedger3
namespace Go.Proofs.Ytaoflcmjmhfblaa.Q
open Go.RowKit Go.Proofs.YtaoflcmjmhfblaaW.PrintWords Go.Proofs.YtaoflcmjmhfblaaW.PrintLast Go.Proofs.YtaoflcmjmhfblaaW.PrintMore Go.Proofs.Ytaoflcmjmhfblaa.H Go.Shelf
set_option linter.unusedVariables false
set_option linter.unusedSimpArgs false
def askTok (o : OpenS) (tok : Int) : OpenS := ⟨⟨o.f0.f0, tok, o.f0.f2, o.f0.f3, o.f0.f4⟩, o.f1, o.f2, o.f3, o.f4⟩
def askL (l : List OpenS) (last : Int) (o : OpenS) : List OpenS × Int × Int :=
  if ¬ MayL l last ∨ 4611686018427387904 ≤ last ∨ mayO o = false then ([], 0, 2)
  else if lau o = false ∧ l.any (twin o) = true then ([], 0, 8)
  else if lau o = true ∧ (l.filter lau).length = 4096 then ([], 0, 10)
  else (l ++ [askTok o (last + 1)], last + 1, 0)
theorem setA_defers (a : Act) (l : List (Nat × Value)) : (setA a l).defers = a.defers := rfl
theorem eval_tmp (a : Act) (k : Nat) : a.tmps.getD k undef = a.eval (.tmp k) := rfl
theorem lt_of_some {w : World} {g : Nat} {o : Obj} (h : w.heap[g]? = some o) : g < w.heap.size := by
  rcases Nat.lt_or_ge g w.heap.size with q | q
  · exact q
  · rw [Array.getElem?_eq_none q] at h; cases h
theorem litRow {W : World} {g : Nat} {x : OpenS} (h : W.heap[g]? = some (.cells #[.int .u8 x.f0.f0, .int .u64 x.f0.f1, .int .i64 x.f0.f2, .bool x.f0.f3, .int .u64 x.f0.f4, .int .u64 x.f1, .int .i64 x.f2, .bool x.f3, .int .u32 x.f4] 61 (0, 0))) : ReadsRow (k61.K W) k61.sz W (some ⟨g, 0, none⟩) 1 [x] := by
  refine ⟨rfl, by omega, fun _ => ⟨_, rfl, fun j p hj => ?_⟩⟩
  cases j with
  | zero =>
    obtain rfl := Option.some.inj hj
    refine ⟨_, rfl, k61_mk W x, fun i u hu => ?_⟩
    rw [add_lit0, Nat.zero_mul, Nat.zero_add]
    exact box_cell h i u (by simpa using hu)
  | succ j => simp at hj
/-- What holds while the last region is under way. -/
def AskI (w : World) (A : Option Addr) (n c : Nat) (l : List OpenS) (gx : Nat) (o : OpenS) (last : Int) (a0 : Act) (L : Nat → Bool) (a : Act) (W : World) : Prop :=
  ∃ x44 x45 x46 x47 x48 x49 x50 x6 x7 x8 : Value, a = setA a0 [(44, x44), (45, x45), (46, x46), (47, x47), (48, x48), (49, x49), (50, x50), (6, x6), (7, x7), (8, x8)] ∧
    Below w.heap.size w W ∧ W.heap[gx]? = some (.cells #[.int .u8 o.f0.f0, .int .u64 o.f0.f1, .int .i64 o.f0.f2, .bool o.f0.f3, .int .u64 o.f0.f4, .int .u64 o.f1, .int .i64 o.f2, .bool o.f3, .int .u32 o.f4] 61 (0, 0)) ∧
    (L 0 = true → x44 = .slice A n c) ∧ (L 1 = true → L 4 = false → Kd.R k61 61 W w.heap.size (fun k => k ≠ gx) x45 l) ∧ (L 2 = true → x46 = vOpen o) ∧
    (L 3 = true → L 4 = false → ∃ g, x47 = .slice (some ⟨g, 0, none⟩) 1 1 ∧ W.heap[g]? = some (.cells #[.int .u8 o.f0.f0, .int .u64 o.f0.f1, .int .i64 o.f0.f2, .bool o.f0.f3, .int .u64 o.f0.f4, .int .u64 o.f1, .int .i64 o.f2, .bool o.f3, .int .u32 o.f4] 61 (0, 0))) ∧
    (L 4 = true → Kd.R k61 61 W w.heap.size (fun _ => True) x48 (l ++ [o])) ∧ (L 5 = true → x49 = .int .u64 last) ∧ (L 6 = true → x50 = .int .u64 (last + 1)) ∧
    (L 7 = true → L 4 = true ∧ x6 = x48) ∧ (L 8 = true → L 6 = true ∧ x7 = x50) ∧ (L 9 = true → x8 = .int .i64 0)
set_option maxHeartbeats 16000000 in
set_option maxRecDepth 100000 in
theorem ask_walk (A : Option Addr) (c : Nat) (l : List OpenS) (last : Int) (o : OpenS) (w : World) (h : Kd.C k61 w A l.length l) (hlc : l.length ≤ c) (hsz : (l.length + 1) * 64 ≤ 140737488355328) (hl0 : 0 ≤ last) :
    Calls Try.prog 25 #[.slice A l.length c, .int .u64 last, vOpen o] w fun e w' => ∃ v0_ : Value, e = .returned (.tuple #[v0_, .int .u64 (askL l last o).2.1, .int .i64 (askL l last o).2.2]) ∧ Kd.R k61 61 w' w.heap.size (fun _ => True) v0_ (askL l last o).1 ∧ Below w.heap.size w w' := by
  have hm := Kd.C_max h
  have hb0 := (Below.refl w.heap.size w).alloc (Nat.le_refl _) (.cells #[.int .u8 o.f0.f0, .int .u64 o.f0.f1, .int .i64 o.f0.f2, .bool o.f0.f3, .int .u64 o.f0.f4, .int .u64 o.f1, .int .i64 o.f2, .bool o.f3, .int .u32 o.f4] 61 (0, 0))
  have KM := Lib.hid (fun W (hW : Below w.heap.size w W) => mayLc A c l last W (Kd.C_below h hW) hlc)
  have KN := Lib.hid (fun W (hW : Below w.heap.size w W) => launchesc A c l W (Kd.C_below h hW) hlc)
  have KC := Lib.hid (fun W (hW : Below w.heap.size w W) => cloneOpen A c l W (Kd.C_below h hW) (by omega))
  have KH := Lib.hid (fun W (hW : Below w.heap.size w W) (hx : W.heap[w.heap.size]? = some (.cells #[.int .u8 o.f0.f0, .int .u64 o.f0.f1, .int .i64 o.f0.f2, .bool o.f0.f3, .int .u64 o.f0.f4, .int .u64 o.f1, .int .i64 o.f2, .bool o.f3, .int .u32 o.f4] 61 (0, 0))) => hasOpen 79 #[.pointer (some ⟨w.heap.size, 0, none⟩)] (fun args w => by kernel_rfl) (twin o) A c l W (Kd.C_below h hW)
    (fun W2 x hW2 => ask1_calls x o _ W2 ((hW2.block _ (by
      rcases Nat.lt_or_ge w.heap.size W.heap.size with q | q
      · exact q
      · rw [Array.getElem?_eq_none q] at hx; cases hx)).trans hx)))
  have KO := Lib.hid (fun W => mayc o W)
  have KL := Lib.hid (fun W => lauc o W)
  obtain ⟨bM, hbM⟩ : ∃ b, decide (MayL l last) = b := ⟨_, rfl⟩
  obtain ⟨bO, hbO⟩ : ∃ b, mayO o = b := ⟨_, rfl⟩
  obtain ⟨bL, hbL⟩ : ∃ b, lau o = b := ⟨_, rfl⟩
  obtain ⟨bH, hbH⟩ : ∃ b, l.any (twin o) = b := ⟨_, rfl⟩
  obtain ⟨nL, hnL⟩ : ∃ b, (l.filter lau).length = b := ⟨_, rfl⟩
  rw [hbM] at KM
  rw [hbO] at KO
  rw [hbL] at KL
  rw [hbH] at KH
  rw [hnL] at KN
  have hq : askL l last o = (if bM = false ∨ 4611686018427387904 ≤ last ∨ bO = false then ([], 0, 2) else if bL = false ∧ bH = true then ([], 0, 8) else if bL = true ∧ nL = 4096 then ([], 0, 10) else (l ++ [askTok o (last + 1)], last + 1, 0)) := by
    unfold askL
    rw [hbO, hbL, hbH, hnL]
    congr 1
    rw [← hbM, decide_eq_false_iff_not]
  rw [hq]
  obtain ⟨n, hn⟩ : ∃ n, l.length = n := ⟨_, rfl⟩
  rw [hn] at KM KN KC KH hm ⊢
  have HSZ := Lib.hid hsz
  have HN := Lib.hid hn
  have HQ := Lib.hid hq
  have HBX := Lib.hid (heap_alloc_new w (.cells #[.int .u8 o.f0.f0, .int .u64 o.f0.f1, .int .i64 o.f0.f2, .bool o.f0.f3, .int .u64 o.f0.f4, .int .u64 o.f1, .int .i64 o.f2, .bool o.f3, .int .u32 o.f4] 61 (0, 0)))
  have HB := Lib.hid hb0
  have HLT := Lib.hid (show w.heap.size < (w.alloc (.cells #[.int .u8 o.f0.f0, .int .u64 o.f0.f1, .int .i64 o.f0.f2, .bool o.f0.f3, .int .u64 o.f0.f4, .int .u64 o.f1, .int .i64 o.f2, .bool o.f3, .int .u32 o.f4] 61 (0, 0))).heap.size by simp)
  simp only [vOpen] at KO KL ⊢
  clear h hlc hsz hb0 hbM hbO hbL hbH hnL hq hn
  cases bM with
  | false =>
    rw [if_pos (.inl rfl)]
    go_enter Try.func25, Try.ntmps25
    go_wp2_with (first | (go_at_call 30; (with_reducible refine (KM.out _ HB.out).mono ?_); rintro e w2 ⟨rfl, hb2⟩; have HB' := Lib.hid (below_step HB.out hb2); clear HB; have HB := HB'; clear HB'; have HBX' := Lib.hid ((hb2.block _ HLT.out).trans HBX.out); clear HBX; have HBX := HBX'; clear HBX'; have HLT' := Lib.hid (Nat.lt_of_lt_of_le HLT.out hb2.size); clear HLT; have HLT := HLT'; clear HLT' hb2; have hcz1 := box_cell HBX.out 1 _ rfl; have hfz1 := blk_frozen HBX.out 1))
    all_goals first | (exfalso; omega) | (go_ret3; exact ⟨_, rfl, Kd.R_nil _ _ _ _ _, HB.out⟩)
  | true =>
    by_cases hlast : 4611686018427387904 ≤ last
    · rw [if_pos (.inr (.inl hlast))]
      go_enter Try.func25, Try.ntmps25
      go_wp2_with (first | (go_at_call 30; (with_reducible refine (KM.out _ HB.out).mono ?_); rintro e w2 ⟨rfl, hb2⟩; have HB' := Lib.hid (below_step HB.out hb2); clear HB; have HB := HB'; clear HB'; have HBX' := Lib.hid ((hb2.block _ HLT.out).trans HBX.out); clear HBX; have HBX := HBX'; clear HBX'; have HLT' := Lib.hid (Nat.lt_of_lt_of_le HLT.out hb2.size); clear HLT; have HLT := HLT'; clear HLT' hb2; have hcz1 := box_cell HBX.out 1 _ rfl; have hfz1 := blk_frozen HBX.out 1))
      all_goals first | (exfalso; omega) | (go_ret3; exact ⟨_, rfl, Kd.R_nil _ _ _ _ _, HB.out⟩)
    · cases bO with
      | false =>
        rw [if_pos (.inr (.inr rfl))]
        go_enter Try.func25, Try.ntmps25
        go_wp2_with (first | (go_at_call 30; (with_reducible refine (KM.out _ HB.out).mono ?_); rintro e w2 ⟨rfl, hb2⟩; have HB' := Lib.hid (below_step HB.out hb2); clear HB; have HB := HB'; clear HB'; have HBX' := Lib.hid ((hb2.block _ HLT.out).trans HBX.out); clear HBX; have HBX := HBX'; clear HBX'; have HLT' := Lib.hid (Nat.lt_of_lt_of_le HLT.out hb2.size); clear HLT; have HLT := HLT'; clear HLT' hb2; have hcz1 := box_cell HBX.out 1 _ rfl; have hfz1 := blk_frozen HBX.out 1) | ((with_reducible refine gate_load 61 rfl ?_); refine load_row_g (by rfl) 61 _ rfl _ rfl 61 _ _ _ HBX.out Try.underlying61 rfl (by kernel_rfl) ?_) | (go_at_call 76; (with_reducible refine (KO.out _).mono ?_); rintro e w2 ⟨rfl, hb2⟩; have HB' := Lib.hid (below_step HB.out hb2); clear HB; have HB := HB'; clear HB'; have HBX' := Lib.hid ((hb2.block _ HLT.out).trans HBX.out); clear HBX; have HBX := HBX'; clear HBX'; have HLT' := Lib.hid (Nat.lt_of_lt_of_le HLT.out hb2.size); clear HLT; have HLT := HLT'; clear HLT' hb2; have hcz1 := box_cell HBX.out 1 _ rfl; have hfz1 := blk_frozen HBX.out 1))
        all_goals first | (exfalso; omega) | (go_ret3; exact ⟨_, rfl, Kd.R_nil _ _ _ _ _, HB.out⟩)
      | true =>
        rw [if_neg (by rintro (h | h | h) <;> first | omega | cases h)]
        cases bL with
        | false =>
          cases bH with
          | true =>
            rw [if_pos ⟨rfl, rfl⟩]
            go_enter Try.func25, Try.ntmps25
            go_wp2_with (first | (go_at_call 30; (with_reducible refine (KM.out _ HB.out).mono ?_); rintro e w2 ⟨rfl, hb2⟩; have HB' := Lib.hid (below_step HB.out hb2); clear HB; have HB := HB'; clear HB'; have HBX' := Lib.hid ((hb2.block _ HLT.out).trans HBX.out); clear HBX; have HBX := HBX'; clear HBX'; have HLT' := Lib.hid (Nat.lt_of_lt_of_le HLT.out hb2.size); clear HLT; have HLT := HLT'; clear HLT' hb2; have hcz1 := box_cell HBX.out 1 _ rfl; have hfz1 := blk_frozen HBX.out 1) | ((with_reducible refine gate_load 61 rfl ?_); refine load_row_g (by rfl) 61 _ rfl _ rfl 61 _ _ _ HBX.out Try.underlying61 rfl (by kernel_rfl) ?_) | (go_at_call 76; (with_reducible refine (KO.out _).mono ?_); rintro e w2 ⟨rfl, hb2⟩; have HB' := Lib.hid (below_step HB.out hb2); clear HB; have HB := HB'; clear HB'; have HBX' := Lib.hid ((hb2.block _ HLT.out).trans HBX.out); clear HBX; have HBX := HBX'; clear HBX'; have HLT' := Lib.hid (Nat.lt_of_lt_of_le HLT.out hb2.size); clear HLT; have HLT := HLT'; clear HLT' hb2; have hcz1 := box_cell HBX.out 1 _ rfl; have hfz1 := blk_frozen HBX.out 1) | (go_at_call 77; (with_reducible refine (KL.out _).mono ?_); rintro e w2 ⟨rfl, hb2⟩; have HB' := Lib.hid (below_step HB.out hb2); clear HB; have HB := HB'; clear HB'; have HBX' := Lib.hid ((hb2.block _ HLT.out).trans HBX.out); clear HBX; have HBX := HBX'; clear HBX'; have HLT' := Lib.hid (Nat.lt_of_lt_of_le HLT.out hb2.size); clear HLT; have HLT := HLT'; clear HLT' hb2; have hcz1 := box_cell HBX.out 1 _ rfl; have hfz1 := blk_frozen HBX.out 1) | (go_at_call 78; (with_reducible refine (KH.out _ HB.out HBX.out).mono ?_); rintro e w2 ⟨rfl, hb2⟩; have HB' := Lib.hid (below_step HB.out hb2); clear HB; have HB := HB'; clear HB'; have HBX' := Lib.hid ((hb2.block _ HLT.out).trans HBX.out); clear HBX; have HBX := HBX'; clear HBX'; have HLT' := Lib.hid (Nat.lt_of_lt_of_le HLT.out hb2.size); clear HLT; have HLT := HLT'; clear HLT' hb2; have hcz1 := box_cell HBX.out 1 _ rfl; have hfz1 := blk_frozen HBX.out 1))
            all_goals first | (exfalso; omega) | (go_ret3; exact ⟨_, rfl, Kd.R_nil _ _ _ _ _, HB.out⟩)
          | false =>
            rw [if_neg (by rintro ⟨_, h⟩; cases h), if_neg (by rintro ⟨h, _⟩; cases h)]
            go_enter Try.func25, Try.ntmps25
            go_wp2_with (first | (go_at_call 30; (with_reducible refine (KM.out _ HB.out).mono ?_); rintro e w2 ⟨rfl, hb2⟩; have HB' := Lib.hid (below_step HB.out hb2); clear HB; have HB := HB'; clear HB'; have HBX' := Lib.hid ((hb2.block _ HLT.out).trans HBX.out); clear HBX; have HBX := HBX'; clear HBX'; have HLT' := Lib.hid (Nat.lt_of_lt_of_le HLT.out hb2.size); clear HLT; have HLT := HLT'; clear HLT' hb2; have hcz1 := box_cell HBX.out 1 _ rfl; have hfz1 := blk_frozen HBX.out 1) | ((with_reducible refine gate_load 61 rfl ?_); refine load_row_g (by rfl) 61 _ rfl _ rfl 61 _ _ _ HBX.out Try.underlying61 rfl (by kernel_rfl) ?_) | (go_at_call 76; (with_reducible refine (KO.out _).mono ?_); rintro e w2 ⟨rfl, hb2⟩; have HB' := Lib.hid (below_step HB.out hb2); clear HB; have HB := HB'; clear HB'; have HBX' := Lib.hid ((hb2.block _ HLT.out).trans HBX.out); clear HBX; have HBX := HBX'; clear HBX'; have HLT' := Lib.hid (Nat.lt_of_lt_of_le HLT.out hb2.size); clear HLT; have HLT := HLT'; clear HLT' hb2; have hcz1 := box_cell HBX.out 1 _ rfl; have hfz1 := blk_frozen HBX.out 1) | (go_at_call 77; (with_reducible refine (KL.out _).mono ?_); rintro e w2 ⟨rfl, hb2⟩; have HB' := Lib.hid (below_step HB.out hb2); clear HB; have HB := HB'; clear HB'; have HBX' := Lib.hid ((hb2.block _ HLT.out).trans HBX.out); clear HBX; have HBX := HBX'; clear HBX'; have HLT' := Lib.hid (Nat.lt_of_lt_of_le HLT.out hb2.size); clear HLT; have HLT := HLT'; clear HLT' hb2; have hcz1 := box_cell HBX.out 1 _ rfl; have hfz1 := blk_frozen HBX.out 1) | (go_at_call 78; (with_reducible refine (KH.out _ HB.out HBX.out).mono ?_); rintro e w2 ⟨rfl, hb2⟩; have HB' := Lib.hid (below_step HB.out hb2); clear HB; have HB := HB'; clear HB'; have HBX' := Lib.hid ((hb2.block _ HLT.out).trans HBX.out); clear HBX; have HBX := HBX'; clear HBX'; have HLT' := Lib.hid (Nat.lt_of_lt_of_le HLT.out hb2.size); clear HLT; have HLT := HLT'; clear HLT' hb2; have hcz1 := box_cell HBX.out 1 _ rfl; have hfz1 := blk_frozen HBX.out 1))
            all_goals first | (exfalso; omega) | skip
            have HBX2 := Lib.hid (blk_set HBX.out 1 (.int .u64 (last + 1)))
            have HB2 := Lib.hid (HB.out.setCell (p := ⟨w.heap.size, 1, none⟩) (Nat.le_refl _) (.int .u64 (last + 1)))
            refine gen_act (fun a0 => a0.tmps.size = 51 ∧ a0.defers = [] ∧ a0.eval (.tmp 0) = .slice A n c ∧ a0.eval (.tmp 1) = .int .u64 last ∧ a0.eval (.tmp 5) = .pointer (some ⟨w.heap.size, 0, none⟩)) ⟨rfl, rfl, rfl, rfl, rfl⟩ ?_
            rintro a0 ⟨hs, hdf, e0, e1, e5⟩
            refine wp_region_inv_at (by kernel_rfl) (AskI w A n c l w.heap.size (askTok o (last + 1)) last) (by kernel_rfl) ?_ ?_ ?_
            · exact ⟨_, _, _, _, _, _, _, _, _, _, setA_self a0 [44, 45, 46, 47, 48, 49, 50, 6, 7, 8] (by rw [hs]; decide), below_drew HB2.out, HBX2.out, fun h => (by cases h), fun h => (by cases h), fun h => (by cases h), fun h => (by cases h), fun h => (by cases h), fun h => (by cases h), fun h => (by cases h), fun h => (by cases h), fun h => (by cases h), fun h => (by cases h)⟩
            · intro L i o' a' W K hI ho hL hdep hK
              obtain ⟨x44, x45, x46, x47, x48, x49, x50, x6, x7, x8, rfl, hB, hX, h0, h1, h2, h3, h4, h5, h6, h7, h8, h9⟩ := hI
              have ND : ([(44, x44), (45, x45), (46, x46), (47, x47), (48, x48), (49, x49), (50, x50), (6, x6), (7, x7), (8, x8)].map (·.1)).Nodup := by simp
              have E44 : (setA a0 [(44, x44), (45, x45), (46, x46), (47, x47), (48, x48), (49, x49), (50, x50), (6, x6), (7, x7), (8, x8)]).eval (.tmp 44) = x44 := setA_in (i := 0) (by rw [hs]; decide) rfl ND
              have E45 : (setA a0 [(44, x44), (45, x45), (46, x46), (47, x47), (48, x48), (49, x49), (50, x50), (6, x6), (7, x7), (8, x8)]).eval (.tmp 45) = x45 := setA_in (i := 1) (by rw [hs]; decide) rfl ND
              have E46 : (setA a0 [(44, x44), (45, x45), (46, x46), (47, x47), (48, x48), (49, x49), (50, x50), (6, x6), (7, x7), (8, x8)]).eval (.tmp 46) = x46 := setA_in (i := 2) (by rw [hs]; decide) rfl ND
              have E47 : (setA a0 [(44, x44), (45, x45), (46, x46), (47, x47), (48, x48), (49, x49), (50, x50), (6, x6), (7, x7), (8, x8)]).eval (.tmp 47) = x47 := setA_in (i := 3) (by rw [hs]; decide) rfl ND
              have E48 : (setA a0 [(44, x44), (45, x45), (46, x46), (47, x47), (48, x48), (49, x49), (50, x50), (6, x6), (7, x7), (8, x8)]).eval (.tmp 48) = x48 := setA_in (i := 4) (by rw [hs]; decide) rfl ND
              have E49 : (setA a0 [(44, x44), (45, x45), (46, x46), (47, x47), (48, x48), (49, x49), (50, x50), (6, x6), (7, x7), (8, x8)]).eval (.tmp 49) = x49 := setA_in (i := 5) (by rw [hs]; decide) rfl ND
              have E50 : (setA a0 [(44, x44), (45, x45), (46, x46), (47, x47), (48, x48), (49, x49), (50, x50), (6, x6), (7, x7), (8, x8)]).eval (.tmp 50) = x50 := setA_in (i := 6) (by rw [hs]; decide) rfl ND
              have E0 : (setA a0 [(44, x44), (45, x45), (46, x46), (47, x47), (48, x48), (49, x49), (50, x50), (6, x6), (7, x7), (8, x8)]).eval (.tmp 0) = .slice A n c := (setA_out (by simp)).trans e0
              have E1 : (setA a0 [(44, x44), (45, x45), (46, x46), (47, x47), (48, x48), (49, x49), (50, x50), (6, x6), (7, x7), (8, x8)]).eval (.tmp 1) = .int .u64 last := (setA_out (by simp)).trans e1
              have E5 : (setA a0 [(44, x44), (45, x45), (46, x46), (47, x47), (48, x48), (49, x49), (50, x50), (6, x6), (7, x7), (8, x8)]).eval (.tmp 5) = .pointer (some ⟨w.heap.size, 0, none⟩) := (setA_out (by simp)).trans e5
              match i, ho with
              | 0, ho =>
                simp only [List.getElem?_toArray, List.getElem?_cons_zero, List.getElem?_cons_succ, Option.some.injEq] at ho
                subst ho
                simp [Region.binds] at hdep
                refine stp_move rfl (by first | exact .inl rfl | exact .inr rfl) ?_
                refine hK _ _ ⟨_, x45, x46, x47, x48, x49, x50, x6, x7, x8, setA_put (i := 0) _ rfl ND, hB, hX, (fun _ => E0), (fun hq hq4 => (h1 (by simpa using hq) (by simpa using hq4))), (fun hq => (h2 (by simpa using hq))), (fun hq hq4 => (h3 (by simpa using hq) (by simpa using hq4))), (fun hq => (h4 (by simpa using hq))), (fun hq => (h5 (by simpa using hq))), (fun hq => (h6 (by simpa using hq))), (fun hq => ⟨by simp [(h7 (by simpa using hq)).1], (h7 (by simpa using hq)).2⟩), (fun hq => ⟨by simp [(h8 (by simpa using hq)).1], (h8 (by simpa using hq)).2⟩), (fun hq => (h9 (by simpa using hq)))⟩
              | 1, ho =>
                simp only [List.getElem?_toArray, List.getElem?_cons_zero, List.getElem?_cons_succ, Option.some.injEq] at ho
                subst ho
                simp [Region.binds] at hdep
                have e44 := h0 (by simpa using hdep)
                refine stp_call rfl Try.func82 (by kernel_rfl) rfl rfl (args := #[.slice A n c]) (by rw [← e44]; simp only [List.map_toArray, List.map_cons, List.map_nil, E44]) ?_
                refine (KC.out _ hB).mono ?_
                rintro e w2 ⟨v1, rfl, ho1, hb1⟩
                refine ⟨v1, rfl, hK _ _ ⟨x44, v1, x46, x47, x48, x49, x50, x6, x7, x8, setA_put (i := 1) _ rfl ND, below_step hB hb1, (hb1.block _ (lt_of_some hX)).trans hX, (fun hq => (h0 (by simpa using hq))), (fun _ _ => Kd.R_lower (Kd.R_mono (Kd.R_bound ho1) (fun k hk => by have h1 := lt_of_some hX; have h2 := hk.2.1; omega)) hB.size), (fun hq => (h2 (by simpa using hq))), (fun hq hq4 => ((h3 (by simpa using hq) (by simpa using hq4))).imp (fun g hg => ⟨hg.1, (hb1.block _ (lt_of_some hg.2)).trans hg.2⟩)), (fun hq => Kd.R_below (h4 (by simpa using hq)) hb1), (fun hq => (h5 (by simpa using hq))), (fun hq => (h6 (by simpa using hq))), (fun hq => ⟨by simp [(h7 (by simpa using hq)).1], (h7 (by simpa using hq)).2⟩), (fun hq => ⟨by simp [(h8 (by simpa using hq)).1], (h8 (by simpa using hq)).2⟩), (fun hq => (h9 (by simpa using hq)))⟩⟩
              | 2, ho =>
                simp only [List.getElem?_toArray, List.getElem?_cons_zero, List.getElem?_cons_succ, Option.some.injEq] at ho
                subst ho
                simp [Region.binds] at hdep
                refine stp_load rfl rfl E5 hX Try.underlying61 rfl (by kernel_rfl) ?_
                refine hK _ _ ⟨x44, x45, _, x47, x48, x49, x50, x6, x7, x8, setA_put (i := 2) _ rfl ND, hB, hX, (fun hq => (h0 (by simpa using hq))), (fun hq hq4 => (h1 (by simpa using hq) (by simpa using hq4))), (fun _ => rfl), (fun hq hq4 => (h3 (by simpa using hq) (by simpa using hq4))), (fun hq => (h4 (by simpa using hq))), (fun hq => (h5 (by simpa using hq))), (fun hq => (h6 (by simpa using hq))), (fun hq => ⟨by simp [(h7 (by simpa using hq)).1], (h7 (by simpa using hq)).2⟩), (fun hq => ⟨by simp [(h8 (by simpa using hq)).1], (h8 (by simpa using hq)).2⟩), (fun hq => (h9 (by simpa using hq)))⟩
              | 3, ho =>
                simp only [List.getElem?_toArray, List.getElem?_cons_zero, List.getElem?_cons_succ, Option.some.injEq] at ho
                subst ho
                simp [Region.binds] at hdep
                have e46 := h2 (by simpa using hdep)
                simp only [vOpen] at e46
                refine stp1 (v := .slice (some ⟨W.heap.size, 0, none⟩) 1 1) (w' := W.alloc (.cells #[.int .u8 (askTok o (last + 1)).f0.f0, .int .u64 (askTok o (last + 1)).f0.f1, .int .i64 (askTok o (last + 1)).f0.f2, .bool (askTok o (last + 1)).f0.f3, .int .u64 (askTok o (last + 1)).f0.f4, .int .u64 (askTok o (last + 1)).f1, .int .i64 (askTok o (last + 1)).f2, .bool (askTok o (last + 1)).f3, .int .u32 (askTok o (last + 1)).f4] 61 (0, 0))) (.tmp 46) _ rfl (E46.trans e46) (fun ρ hc hρ => by clear hX hK; go_simp) ?_
                refine hK _ _ ⟨x44, x45, x46, _, x48, x49, x50, x6, x7, x8, setA_put (i := 3) _ rfl ND, hB.alloc hB.size _, ((Below.refl _ W).alloc (Nat.le_refl _) _ |>.block _ (lt_of_some hX)).trans hX, (fun hq => (h0 (by simpa using hq))), (fun hq hq4 => Kd.R_alloc (h1 (by simpa using hq) (by simpa using hq4)) _), (fun hq => (h2 (by simpa using hq))), (fun _ _ => ⟨W.heap.size, rfl, heap_alloc_new W _⟩), (fun hq => Kd.R_alloc (h4 (by simpa using hq)) _), (fun hq => (h5 (by simpa using hq))), (fun hq => (h6 (by simpa using hq))), (fun hq => ⟨by simp [(h7 (by simpa using hq)).1], (h7 (by simpa using hq)).2⟩), (fun hq => ⟨by simp [(h8 (by simpa using hq)).1], (h8 (by simpa using hq)).2⟩), (fun hq => (h9 (by simpa using hq)))⟩
              | 4, ho =>
                simp only [List.getElem?_toArray, List.getElem?_cons_zero, List.getElem?_cons_succ, Option.some.injEq] at ho
                subst ho
                simp [Region.binds] at hdep
                obtain ⟨d1, d3, _⟩ := hdep
                have hR := h1 d1 (by simpa using hL)
                obtain ⟨g, e47, hg⟩ := h3 d3 (by simpa using hL)
                refine StepOk.of_ite (Kd.R_append_rows_step k61 (w0 := w) (Rr := fun x cs => k61.K W x cs) w.heap.size (by simp [Region.wanted]) _ _ 57 61 (.agg #[(.int .u8 0), (.int .u64 0), (.int .i64 0), (.bool false), (.int .u64 0), (.int .u64 0), (.int .i64 0), (.bool false), (.int .u32 0)]) 64 rfl Try.underlying57 infoLOpen rfl (by decide) (by decide) x45 l [askTok o (last + 1)] (some ⟨g, 0, none⟩) 1 1 (fun k => k ≠ w.heap.size) (fun _ => False) E45 (by rw [← e47]; exact E47) hR (litRow hg) (fun x cs h => kmOpen h) (fun _ h => h.elim) (fun k hk => by have h1 := lt_of_some hX; omega) hB hB.size (by have := HSZ.out; omega) ?_)
                intro v1 w1 ho hb hgr _
                refine hK _ _ ⟨x44, x45, x46, x47, v1, x49, x50, x6, x7, x8, setA_put (i := 4) _ rfl ND, hb, ?_, (fun hq => (h0 (by simpa using hq))), (fun _ hq4 => absurd hq4 (by simp)), (fun hq => (h2 (by simpa using hq))), (fun _ hq4 => absurd hq4 (by simp)), (fun _ => Kd.R_mono ho (fun _ _ => trivial)), (fun hq => (h5 (by simpa using hq))), (fun hq => (h6 (by simpa using hq))), (fun hq => absurd (h7 (by simpa using hq)).1 (by simp [hL])), (fun hq => ⟨by simp [(h8 (by simpa using hq)).1], (h8 (by simpa using hq)).2⟩), (fun hq => (h9 (by simpa using hq)))⟩
                exact (hgr.block _ (lt_of_some hX) (Kd.R_away hR (fun k hk => hk))).trans hX
              | 5, ho =>
                simp only [List.getElem?_toArray, List.getElem?_cons_zero, List.getElem?_cons_succ, Option.some.injEq] at ho
                subst ho
                simp [Region.binds] at hdep
                refine stp_move rfl (by first | exact .inl rfl | exact .inr rfl) ?_
                refine hK _ _ ⟨x44, x45, x46, x47, x48, _, x50, x6, x7, x8, setA_put (i := 5) _ rfl ND, hB, hX, (fun hq => (h0 (by simpa using hq))), (fun hq hq4 => (h1 (by simpa using hq) (by simpa using hq4))), (fun hq => (h2 (by simpa using hq))), (fun hq hq4 => (h3 (by simpa using hq) (by simpa using hq4))), (fun hq => (h4 (by simpa using hq))), (fun _ => E1), (fun hq => (h6 (by simpa using hq))), (fun hq => ⟨by simp [(h7 (by simpa using hq)).1], (h7 (by simpa using hq)).2⟩), (fun hq => ⟨by simp [(h8 (by simpa using hq)).1], (h8 (by simpa using hq)).2⟩), (fun hq => (h9 (by simpa using hq)))⟩
              | 6, ho =>
                simp only [List.getElem?_toArray, List.getElem?_cons_zero, List.getElem?_cons_succ, Option.some.injEq] at ho
                subst ho
                simp [Region.binds] at hdep
                have e49 := h5 (by simpa using hdep)
                refine stp1 (v := .int .u64 (last + 1)) (w' := W) (.tmp 49) _ rfl (E49.trans e49) (fun ρ hc hρ => by clear hX hK; go_simp; exact wu64 (by omega) (by omega)) ?_
                refine hK _ _ ⟨x44, x45, x46, x47, x48, x49, _, x6, x7, x8, setA_put (i := 6) _ rfl ND, hB, hX, (fun hq => (h0 (by simpa using hq))), (fun hq hq4 => (h1 (by simpa using hq) (by simpa using hq4))), (fun hq => (h2 (by simpa using hq))), (fun hq hq4 => (h3 (by simpa using hq) (by simpa using hq4))), (fun hq => (h4 (by simpa using hq))), (fun hq => (h5 (by simpa using hq))), (fun _ => rfl), (fun hq => ⟨by simp [(h7 (by simpa using hq)).1], (h7 (by simpa using hq)).2⟩), (fun hq => absurd (h8 (by simpa using hq)).1 (by simp [hL])), (fun hq => (h9 (by simpa using hq)))⟩
              | 7, ho =>
                simp only [List.getElem?_toArray, List.getElem?_cons_zero, List.getElem?_cons_succ, Option.some.injEq] at ho
                subst ho
                simp [Region.binds] at hdep
                refine stp_move rfl (by first | exact .inl rfl | exact .inr rfl) ?_
                refine hK _ _ ⟨x44, x45, x46, x47, x48, x49, x50, _, x7, x8, setA_put (i := 7) _ rfl ND, hB, hX, (fun hq => (h0 (by simpa using hq))), (fun hq hq4 => (h1 (by simpa using hq) (by simpa using hq4))), (fun hq => (h2 (by simpa using hq))), (fun hq hq4 => (h3 (by simpa using hq) (by simpa using hq4))), (fun hq => (h4 (by simpa using hq))), (fun hq => (h5 (by simpa using hq))), (fun hq => (h6 (by simpa using hq))), (fun _ => ⟨by simp [hdep.2.2.2.2], E48⟩), (fun hq => ⟨by simp [(h8 (by simpa using hq)).1], (h8 (by simpa using hq)).2⟩), (fun hq => (h9 (by simpa using hq)))⟩
              | 8, ho =>
                simp only [List.getElem?_toArray, List.getElem?_cons_zero, List.getElem?_cons_succ, Option.some.injEq] at ho
                subst ho
                simp [Region.binds] at hdep
                refine stp_move rfl (by first | exact .inl rfl | exact .inr rfl) ?_
                refine hK _ _ ⟨x44, x45, x46, x47, x48, x49, x50, x6, _, x8, setA_put (i := 8) _ rfl ND, hB, hX, (fun hq => (h0 (by simpa using hq))), (fun hq hq4 => (h1 (by simpa using hq) (by simpa using hq4))), (fun hq => (h2 (by simpa using hq))), (fun hq hq4 => (h3 (by simpa using hq) (by simpa using hq4))), (fun hq => (h4 (by simpa using hq))), (fun hq => (h5 (by simpa using hq))), (fun hq => (h6 (by simpa using hq))), (fun hq => ⟨by simp [(h7 (by simpa using hq)).1], (h7 (by simpa using hq)).2⟩), (fun _ => ⟨by simp [hdep], E50⟩), (fun hq => (h9 (by simpa using hq)))⟩
              | 9, ho =>
                simp only [List.getElem?_toArray, List.getElem?_cons_zero, List.getElem?_cons_succ, Option.some.injEq] at ho
                subst ho
                simp [Region.binds] at hdep
                refine stp_move rfl (by first | exact .inl rfl | exact .inr rfl) ?_
                refine hK _ _ ⟨x44, x45, x46, x47, x48, x49, x50, x6, x7, _, setA_put (i := 9) _ rfl ND, hB, hX, (fun hq => (h0 (by simpa using hq))), (fun hq hq4 => (h1 (by simpa using hq) (by simpa using hq4))), (fun hq => (h2 (by simpa using hq))), (fun hq hq4 => (h3 (by simpa using hq) (by simpa using hq4))), (fun hq => (h4 (by simpa using hq))), (fun hq => (h5 (by simpa using hq))), (fun hq => (h6 (by simpa using hq))), (fun hq => ⟨by simp [(h7 (by simpa using hq)).1], (h7 (by simpa using hq)).2⟩), (fun hq => ⟨by simp [(h8 (by simpa using hq)).1], (h8 (by simpa using hq)).2⟩), (fun _ => rfl)⟩
              | i + 10, ho => simp at ho
            · intro L a' W hI hall
              obtain ⟨x44, x45, x46, x47, x48, x49, x50, x6, x7, x8, rfl, hB, hX, h0, h1, h2, h3, h4, h5, h6, h7, h8, h9⟩ := hI
              have ND : ([(44, x44), (45, x45), (46, x46), (47, x47), (48, x48), (49, x49), (50, x50), (6, x6), (7, x7), (8, x8)].map (·.1)).Nodup := by simp
              have E6 : (setA a0 [(44, x44), (45, x45), (46, x46), (47, x47), (48, x48), (49, x49), (50, x50), (6, x6), (7, x7), (8, x8)]).eval (.tmp 6) = x6 := setA_in (k := 6) (i := 7) (by rw [hs]; decide) rfl ND
              have E7 : (setA a0 [(44, x44), (45, x45), (46, x46), (47, x47), (48, x48), (49, x49), (50, x50), (6, x6), (7, x7), (8, x8)]).eval (.tmp 7) = x7 := setA_in (k := 7) (i := 8) (by rw [hs]; decide) rfl ND
              have E8 : (setA a0 [(44, x44), (45, x45), (46, x46), (47, x47), (48, x48), (49, x49), (50, x50), (6, x6), (7, x7), (8, x8)]).eval (.tmp 8) = x8 := setA_in (k := 8) (i := 9) (by rw [hs]; decide) rfl ND
              have H4 := h4 (hall 4 (by decide))
              have e6 := (h7 (hall 7 (by decide))).2
              have e7 := (h8 (hall 8 (by decide))).2.trans (h6 (hall 6 (by decide)))
              have e8 := h9 (hall 9 (by decide))
              have HD : (setA a0 [(44, x44), (45, x45), (46, x46), (47, x47), (48, x48), (49, x49), (50, x50), (6, x6), (7, x7), (8, x8)]).defers = [] := (setA_defers _ _).trans hdf
              have HH := Lib.hid (And.intro (E6.trans e6) (And.intro (E7.trans e7) (And.intro (E8.trans e8) (And.intro H4 (And.intro hB HD)))))
              clear HD E6 E7 E8 H4 e6 e7 e8 hB hX h0 h1 h2 h3 h4 h5 h6 h7 h8 h9 ND hall
              obtain ⟨a1, ha1⟩ : ∃ a1, setA a0 [(44, x44), (45, x45), (46, x46), (47, x47), (48, x48), (49, x49), (50, x50), (6, x6), (7, x7), (8, x8)] = a1 := ⟨_, rfl⟩
              rw [ha1] at HH ⊢
              clear ha1
              go_wp2
              refine bodyPost_ret (results_tmp3 rfl _ _ _) HH.out.2.2.2.2.2 ⟨x48, ?_, HH.out.2.2.2.1, HH.out.2.2.2.2.1⟩
              rw [eval_tmp, eval_tmp, eval_tmp, HH.out.1, HH.out.2.1, HH.out.2.2.1]
        | true =>
          rw [if_neg (by rintro ⟨h, _⟩; cases h)]
          by_cases hnl : nL = 4096
          · rw [if_pos ⟨rfl, hnl⟩]
            subst hnl
            go_enter Try.func25, Try.ntmps25
            go_wp2_with (first | (go_at_call 30; (with_reducible refine (KM.out _ HB.out).mono ?_); rintro e w2 ⟨rfl, hb2⟩; have HB' := Lib.hid (below_step HB.out hb2); clear HB; have HB := HB'; clear HB'; have HBX' := Lib.hid ((hb2.block _ HLT.out).trans HBX.out); clear HBX; have HBX := HBX'; clear HBX'; have HLT' := Lib.hid (Nat.lt_of_lt_of_le HLT.out hb2.size); clear HLT; have HLT := HLT'; clear HLT' hb2; have hcz1 := box_cell HBX.out 1 _ rfl; have hfz1 := blk_frozen HBX.out 1) | ((with_reducible refine gate_load 61 rfl ?_); refine load_row_g (by rfl) 61 _ rfl _ rfl 61 _ _ _ HBX.out Try.underlying61 rfl (by kernel_rfl) ?_) | (go_at_call 76; (with_reducible refine (KO.out _).mono ?_); rintro e w2 ⟨rfl, hb2⟩; have HB' := Lib.hid (below_step HB.out hb2); clear HB; have HB := HB'; clear HB'; have HBX' := Lib.hid ((hb2.block _ HLT.out).trans HBX.out); clear HBX; have HBX := HBX'; clear HBX'; have HLT' := Lib.hid (Nat.lt_of_lt_of_le HLT.out hb2.size); clear HLT; have HLT := HLT'; clear HLT' hb2; have hcz1 := box_cell HBX.out 1 _ rfl; have hfz1 := blk_frozen HBX.out 1) | (go_at_call 77; (with_reducible refine (KL.out _).mono ?_); rintro e w2 ⟨rfl, hb2⟩; have HB' := Lib.hid (below_step HB.out hb2); clear HB; have HB := HB'; clear HB'; have HBX' := Lib.hid ((hb2.block _ HLT.out).trans HBX.out); clear HBX; have HBX := HBX'; clear HBX'; have HLT' := Lib.hid (Nat.lt_of_lt_of_le HLT.out hb2.size); clear HLT; have HLT := HLT'; clear HLT' hb2; have hcz1 := box_cell HBX.out 1 _ rfl; have hfz1 := blk_frozen HBX.out 1) | (go_at_call 81; (with_reducible refine (KN.out _ HB.out).mono ?_); rintro e w2 ⟨rfl, hb2⟩; have HB' := Lib.hid (below_step HB.out hb2); clear HB; have HB := HB'; clear HB'; have HBX' := Lib.hid ((hb2.block _ HLT.out).trans HBX.out); clear HBX; have HBX := HBX'; clear HBX'; have HLT' := Lib.hid (Nat.lt_of_lt_of_le HLT.out hb2.size); clear HLT; have HLT := HLT'; clear HLT' hb2; have hcz1 := box_cell HBX.out 1 _ rfl; have hfz1 := blk_frozen HBX.out 1))
            all_goals first | (exfalso; omega) | (go_ret3; exact ⟨_, rfl, Kd.R_nil _ _ _ _ _, HB.out⟩)
          · rw [if_neg (by rintro ⟨_, h⟩; exact hnl h)]
            have hnl2 : ((nL : Int) == 4096) = false := by rw [beq_eq_false_iff_ne]; omega
            go_enter Try.func25, Try.ntmps25
            go_wp2_with (first | (go_at_call 30; (with_reducible refine (KM.out _ HB.out).mono ?_); rintro e w2 ⟨rfl, hb2⟩; have HB' := Lib.hid (below_step HB.out hb2); clear HB; have HB := HB'; clear HB'; have HBX' := Lib.hid ((hb2.block _ HLT.out).trans HBX.out); clear HBX; have HBX := HBX'; clear HBX'; have HLT' := Lib.hid (Nat.lt_of_lt_of_le HLT.out hb2.size); clear HLT; have HLT := HLT'; clear HLT' hb2; have hcz1 := box_cell HBX.out 1 _ rfl; have hfz1 := blk_frozen HBX.out 1) | ((with_reducible refine gate_load 61 rfl ?_); refine load_row_g (by rfl) 61 _ rfl _ rfl 61 _ _ _ HBX.out Try.underlying61 rfl (by kernel_rfl) ?_) | (go_at_call 76; (with_reducible refine (KO.out _).mono ?_); rintro e w2 ⟨rfl, hb2⟩; have HB' := Lib.hid (below_step HB.out hb2); clear HB; have HB := HB'; clear HB'; have HBX' := Lib.hid ((hb2.block _ HLT.out).trans HBX.out); clear HBX; have HBX := HBX'; clear HBX'; have HLT' := Lib.hid (Nat.lt_of_lt_of_le HLT.out hb2.size); clear HLT; have HLT := HLT'; clear HLT' hb2; have hcz1 := box_cell HBX.out 1 _ rfl; have hfz1 := blk_frozen HBX.out 1) | (go_at_call 77; (with_reducible refine (KL.out _).mono ?_); rintro e w2 ⟨rfl, hb2⟩; have HB' := Lib.hid (below_step HB.out hb2); clear HB; have HB := HB'; clear HB'; have HBX' := Lib.hid ((hb2.block _ HLT.out).trans HBX.out); clear HBX; have HBX := HBX'; clear HBX'; have HLT' := Lib.hid (Nat.lt_of_lt_of_le HLT.out hb2.size); clear HLT; have HLT := HLT'; clear HLT' hb2; have hcz1 := box_cell HBX.out 1 _ rfl; have hfz1 := blk_frozen HBX.out 1) | (go_at_call 81; (with_reducible refine (KN.out _ HB.out).mono ?_); rintro e w2 ⟨rfl, hb2⟩; have HB' := Lib.hid (below_step HB.out hb2); clear HB; have HB := HB'; clear HB'; have HBX' := Lib.hid ((hb2.block _ HLT.out).trans HBX.out); clear HBX; have HBX := HBX'; clear HBX'; have HLT' := Lib.hid (Nat.lt_of_lt_of_le HLT.out hb2.size); clear HLT; have HLT := HLT'; clear HLT' hb2; have hcz1 := box_cell HBX.out 1 _ rfl; have hfz1 := blk_frozen HBX.out 1))
            all_goals first | (exfalso; omega) | skip
            have HBX2 := Lib.hid (blk_set HBX.out 1 (.int .u64 (last + 1)))
            have HB2 := Lib.hid (HB.out.setCell (p := ⟨w.heap.size, 1, none⟩) (Nat.le_refl _) (.int .u64 (last + 1)))
            refine gen_act (fun a0 => a0.tmps.size = 51 ∧ a0.defers = [] ∧ a0.eval (.tmp 0) = .slice A n c ∧ a0.eval (.tmp 1) = .int .u64 last ∧ a0.eval (.tmp 5) = .pointer (some ⟨w.heap.size, 0, none⟩)) ⟨rfl, rfl, rfl, rfl, rfl⟩ ?_
            rintro a0 ⟨hs, hdf, e0, e1, e5⟩
            refine wp_region_inv_at (by kernel_rfl) (AskI w A n c l w.heap.size (askTok o (last + 1)) last) (by kernel_rfl) ?_ ?_ ?_
            · exact ⟨_, _, _, _, _, _, _, _, _, _, setA_self a0 [44, 45, 46, 47, 48, 49, 50, 6, 7, 8] (by rw [hs]; decide), below_drew HB2.out, HBX2.out, fun h => (by cases h), fun h => (by cases h), fun h => (by cases h), fun h => (by cases h), fun h => (by cases h), fun h => (by cases h), fun h => (by cases h), fun h => (by cases h), fun h => (by cases h), fun h => (by cases h)⟩
            · intro L i o' a' W K hI ho hL hdep hK
              obtain ⟨x44, x45, x46, x47, x48, x49, x50, x6, x7, x8, rfl, hB, hX, h0, h1, h2, h3, h4, h5, h6, h7, h8, h9⟩ := hI
              have ND : ([(44, x44), (45, x45), (46, x46), (47, x47), (48, x48), (49, x49), (50, x50), (6, x6), (7, x7), (8, x8)].map (·.1)).Nodup := by simp
              have E44 : (setA a0 [(44, x44), (45, x45), (46, x46), (47, x47), (48, x48), (49, x49), (50, x50), (6, x6), (7, x7), (8, x8)]).eval (.tmp 44) = x44 := setA_in (i := 0) (by rw [hs]; decide) rfl ND
              have E45 : (setA a0 [(44, x44), (45, x45), (46, x46), (47, x47), (48, x48), (49, x49), (50, x50), (6, x6), (7, x7), (8, x8)]).eval (.tmp 45) = x45 := setA_in (i := 1) (by rw [hs]; decide) rfl ND
              have E46 : (setA a0 [(44, x44), (45, x45), (46, x46), (47, x47), (48, x48), (49, x49), (50, x50), (6, x6), (7, x7), (8, x8)]).eval (.tmp 46) = x46 := setA_in (i := 2) (by rw [hs]; decide) rfl ND
              have E47 : (setA a0 [(44, x44), (45, x45), (46, x46), (47, x47), (48, x48), (49, x49), (50, x50), (6, x6), (7, x7), (8, x8)]).eval (.tmp 47) = x47 := setA_in (i := 3) (by rw [hs]; decide) rfl ND
              have E48 : (setA a0 [(44, x44), (45, x45), (46, x46), (47, x47), (48, x48), (49, x49), (50, x50), (6, x6), (7, x7), (8, x8)]).eval (.tmp 48) = x48 := setA_in (i := 4) (by rw [hs]; decide) rfl ND
              have E49 : (setA a0 [(44, x44), (45, x45), (46, x46), (47, x47), (48, x48), (49, x49), (50, x50), (6, x6), (7, x7), (8, x8)]).eval (.tmp 49) = x49 := setA_in (i := 5) (by rw [hs]; decide) rfl ND
              have E50 : (setA a0 [(44, x44), (45, x45), (46, x46), (47, x47), (48, x48), (49, x49), (50, x50), (6, x6), (7, x7), (8, x8)]).eval (.tmp 50) = x50 := setA_in (i := 6) (by rw [hs]; decide) rfl ND
              have E0 : (setA a0 [(44, x44), (45, x45), (46, x46), (47, x47), (48, x48), (49, x49), (50, x50), (6, x6), (7, x7), (8, x8)]).eval (.tmp 0) = .slice A n c := (setA_out (by simp)).trans e0
              have E1 : (setA a0 [(44, x44), (45, x45), (46, x46), (47, x47), (48, x48), (49, x49), (50, x50), (6, x6), (7, x7), (8, x8)]).eval (.tmp 1) = .int .u64 last := (setA_out (by simp)).trans e1
              have E5 : (setA a0 [(44, x44), (45, x45), (46, x46), (47, x47), (48, x48), (49, x49), (50, x50), (6, x6), (7, x7), (8, x8)]).eval (.tmp 5) = .pointer (some ⟨w.heap.size, 0, none⟩) := (setA_out (by simp)).trans e5
              match i, ho with
              | 0, ho =>
                simp only [List.getElem?_toArray, List.getElem?_cons_zero, List.getElem?_cons_succ, Option.some.injEq] at ho
                subst ho
                simp [Region.binds] at hdep
                refine stp_move rfl (by first | exact .inl rfl | exact .inr rfl) ?_
                refine hK _ _ ⟨_, x45, x46, x47, x48, x49, x50, x6, x7, x8, setA_put (i := 0) _ rfl ND, hB, hX, (fun _ => E0), (fun hq hq4 => (h1 (by simpa using hq) (by simpa using hq4))), (fun hq => (h2 (by simpa using hq))), (fun hq hq4 => (h3 (by simpa using hq) (by simpa using hq4))), (fun hq => (h4 (by simpa using hq))), (fun hq => (h5 (by simpa using hq))), (fun hq => (h6 (by simpa using hq))), (fun hq => ⟨by simp [(h7 (by simpa using hq)).1], (h7 (by simpa using hq)).2⟩), (fun hq => ⟨by simp [(h8 (by simpa using hq)).1], (h8 (by simpa using hq)).2⟩), (fun hq => (h9 (by simpa using hq)))⟩
              | 1, ho =>
                simp only [List.getElem?_toArray, List.getElem?_cons_zero, List.getElem?_cons_succ, Option.some.injEq] at ho
                subst ho
                simp [Region.binds] at hdep
                have e44 := h0 (by simpa using hdep)
                refine stp_call rfl Try.func82 (by kernel_rfl) rfl rfl (args := #[.slice A n c]) (by rw [← e44]; simp only [List.map_toArray, List.map_cons, List.map_nil, E44]) ?_
                refine (KC.out _ hB).mono ?_
                rintro e w2 ⟨v1, rfl, ho1, hb1⟩
                refine ⟨v1, rfl, hK _ _ ⟨x44, v1, x46, x47, x48, x49, x50, x6, x7, x8, setA_put (i := 1) _ rfl ND, below_step hB hb1, (hb1.block _ (lt_of_some hX)).trans hX, (fun hq => (h0 (by simpa using hq))), (fun _ _ => Kd.R_lower (Kd.R_mono (Kd.R_bound ho1) (fun k hk => by have h1 := lt_of_some hX; have h2 := hk.2.1; omega)) hB.size), (fun hq => (h2 (by simpa using hq))), (fun hq hq4 => ((h3 (by simpa using hq) (by simpa using hq4))).imp (fun g hg => ⟨hg.1, (hb1.block _ (lt_of_some hg.2)).trans hg.2⟩)), (fun hq => Kd.R_below (h4 (by simpa using hq)) hb1), (fun hq => (h5 (by simpa using hq))), (fun hq => (h6 (by simpa using hq))), (fun hq => ⟨by simp [(h7 (by simpa using hq)).1], (h7 (by simpa using hq)).2⟩), (fun hq => ⟨by simp [(h8 (by simpa using hq)).1], (h8 (by simpa using hq)).2⟩), (fun hq => (h9 (by simpa using hq)))⟩⟩
              | 2, ho =>
                simp only [List.getElem?_toArray, List.getElem?_cons_zero, List.getElem?_cons_succ, Option.some.injEq] at ho
                subst ho
                simp [Region.binds] at hdep
                refine stp_load rfl rfl E5 hX Try.underlying61 rfl (by kernel_rfl) ?_
                refine hK _ _ ⟨x44, x45, _, x47, x48, x49, x50, x6, x7, x8, setA_put (i := 2) _ rfl ND, hB, hX, (fun hq => (h0 (by simpa using hq))), (fun hq hq4 => (h1 (by simpa using hq) (by simpa using hq4))), (fun _ => rfl), (fun hq hq4 => (h3 (by simpa using hq) (by simpa using hq4))), (fun hq => (h4 (by simpa using hq))), (fun hq => (h5 (by simpa using hq))), (fun hq => (h6 (by simpa using hq))), (fun hq => ⟨by simp [(h7 (by simpa using hq)).1], (h7 (by simpa using hq)).2⟩), (fun hq => ⟨by simp [(h8 (by simpa using hq)).1], (h8 (by simpa using hq)).2⟩), (fun hq => (h9 (by simpa using hq)))⟩
              | 3, ho =>
                simp only [List.getElem?_toArray, List.getElem?_cons_zero, List.getElem?_cons_succ, Option.some.injEq] at ho
                subst ho
                simp [Region.binds] at hdep
                have e46 := h2 (by simpa using hdep)
                simp only [vOpen] at e46
                refine stp1 (v := .slice (some ⟨W.heap.size, 0, none⟩) 1 1) (w' := W.alloc (.cells #[.int .u8 (askTok o (last + 1)).f0.f0, .int .u64 (askTok o (last + 1)).f0.f1, .int .i64 (askTok o (last + 1)).f0.f2, .bool (askTok o (last + 1)).f0.f3, .int .u64 (askTok o (last + 1)).f0.f4, .int .u64 (askTok o (last + 1)).f1, .int .i64 (askTok o (last + 1)).f2, .bool (askTok o (last + 1)).f3, .int .u32 (askTok o (last + 1)).f4] 61 (0, 0))) (.tmp 46) _ rfl (E46.trans e46) (fun ρ hc hρ => by clear hX hK; go_simp) ?_
                refine hK _ _ ⟨x44, x45, x46, _, x48, x49, x50, x6, x7, x8, setA_put (i := 3) _ rfl ND, hB.alloc hB.size _, ((Below.refl _ W).alloc (Nat.le_refl _) _ |>.block _ (lt_of_some hX)).trans hX, (fun hq => (h0 (by simpa using hq))), (fun hq hq4 => Kd.R_alloc (h1 (by simpa using hq) (by simpa using hq4)) _), (fun hq => (h2 (by simpa using hq))), (fun _ _ => ⟨W.heap.size, rfl, heap_alloc_new W _⟩), (fun hq => Kd.R_alloc (h4 (by simpa using hq)) _), (fun hq => (h5 (by simpa using hq))), (fun hq => (h6 (by simpa using hq))), (fun hq => ⟨by simp [(h7 (by simpa using hq)).1], (h7 (by simpa using hq)).2⟩), (fun hq => ⟨by simp [(h8 (by simpa using hq)).1], (h8 (by simpa using hq)).2⟩), (fun hq => (h9 (by simpa using hq)))⟩
              | 4, ho =>
                simp only [List.getElem?_toArray, List.getElem?_cons_zero, List.getElem?_cons_succ, Option.some.injEq] at ho
                subst ho
                simp [Region.binds] at hdep
                obtain ⟨d1, d3, _⟩ := hdep
                have hR := h1 d1 (by simpa using hL)
                obtain ⟨g, e47, hg⟩ := h3 d3 (by simpa using hL)
                refine StepOk.of_ite (Kd.R_append_rows_step k61 (w0 := w) (Rr := fun x cs => k61.K W x cs) w.heap.size (by simp [Region.wanted]) _ _ 57 61 (.agg #[(.int .u8 0), (.int .u64 0), (.int .i64 0), (.bool false), (.int .u64 0), (.int .u64 0), (.int .i64 0), (.bool false), (.int .u32 0)]) 64 rfl Try.underlying57 infoLOpen rfl (by decide) (by decide) x45 l [askTok o (last + 1)] (some ⟨g, 0, none⟩) 1 1 (fun k => k ≠ w.heap.size) (fun _ => False) E45 (by rw [← e47]; exact E47) hR (litRow hg) (fun x cs h => kmOpen h) (fun _ h => h.elim) (fun k hk => by have h1 := lt_of_some hX; omega) hB hB.size (by have := HSZ.out; omega) ?_)
                intro v1 w1 ho hb hgr _
                refine hK _ _ ⟨x44, x45, x46, x47, v1, x49, x50, x6, x7, x8, setA_put (i := 4) _ rfl ND, hb, ?_, (fun hq => (h0 (by simpa using hq))), (fun _ hq4 => absurd hq4 (by simp)), (fun hq => (h2 (by simpa using hq))), (fun _ hq4 => absurd hq4 (by simp)), (fun _ => Kd.R_mono ho (fun _ _ => trivial)), (fun hq => (h5 (by simpa using hq))), (fun hq => (h6 (by simpa using hq))), (fun hq => absurd (h7 (by simpa using hq)).1 (by simp [hL])), (fun hq => ⟨by simp [(h8 (by simpa using hq)).1], (h8 (by simpa using hq)).2⟩), (fun hq => (h9 (by simpa using hq)))⟩
                exact (hgr.block _ (lt_of_some hX) (Kd.R_away hR (fun k hk => hk))).trans hX
              | 5, ho =>
                simp only [List.getElem?_toArray, List.getElem?_cons_zero, List.getElem?_cons_succ, Option.some.injEq] at ho
                subst ho
                simp [Region.binds] at hdep
                refine stp_move rfl (by first | exact .inl rfl | exact .inr rfl) ?_
                refine hK _ _ ⟨x44, x45, x46, x47, x48, _, x50, x6, x7, x8, setA_put (i := 5) _ rfl ND, hB, hX, (fun hq => (h0 (by simpa using hq))), (fun hq hq4 => (h1 (by simpa using hq) (by simpa using hq4))), (fun hq => (h2 (by simpa using hq))), (fun hq hq4 => (h3 (by simpa using hq) (by simpa using hq4))), (fun hq => (h4 (by simpa using hq))), (fun _ => E1), (fun hq => (h6 (by simpa using hq))), (fun hq => ⟨by simp [(h7 (by simpa using hq)).1], (h7 (by simpa using hq)).2⟩), (fun hq => ⟨by simp [(h8 (by simpa using hq)).1], (h8 (by simpa using hq)).2⟩), (fun hq => (h9 (by simpa using hq)))⟩
              | 6, ho =>
                simp only [List.getElem?_toArray, List.getElem?_cons_zero, List.getElem?_cons_succ, Option.some.injEq] at ho
                subst ho
                simp [Region.binds] at hdep
                have e49 := h5 (by simpa using hdep)
                refine stp1 (v := .int .u64 (last + 1)) (w' := W) (.tmp 49) _ rfl (E49.trans e49) (fun ρ hc hρ => by clear hX hK; go_simp; exact wu64 (by omega) (by omega)) ?_
                refine hK _ _ ⟨x44, x45, x46, x47, x48, x49, _, x6, x7, x8, setA_put (i := 6) _ rfl ND, hB, hX, (fun hq => (h0 (by simpa using hq))), (fun hq hq4 => (h1 (by simpa using hq) (by simpa using hq4))), (fun hq => (h2 (by simpa using hq))), (fun hq hq4 => (h3 (by simpa using hq) (by simpa using hq4))), (fun hq => (h4 (by simpa using hq))), (fun hq => (h5 (by simpa using hq))), (fun _ => rfl), (fun hq => ⟨by simp [(h7 (by simpa using hq)).1], (h7 (by simpa using hq)).2⟩), (fun hq => absurd (h8 (by simpa using hq)).1 (by simp [hL])), (fun hq => (h9 (by simpa using hq)))⟩
              | 7, ho =>
                simp only [List.getElem?_toArray, List.getElem?_cons_zero, List.getElem?_cons_succ, Option.some.injEq] at ho
                subst ho
                simp [Region.binds] at hdep
                refine stp_move rfl (by first | exact .inl rfl | exact .inr rfl) ?_
                refine hK _ _ ⟨x44, x45, x46, x47, x48, x49, x50, _, x7, x8, setA_put (i := 7) _ rfl ND, hB, hX, (fun hq => (h0 (by simpa using hq))), (fun hq hq4 => (h1 (by simpa using hq) (by simpa using hq4))), (fun hq => (h2 (by simpa using hq))), (fun hq hq4 => (h3 (by simpa using hq) (by simpa using hq4))), (fun hq => (h4 (by simpa using hq))), (fun hq => (h5 (by simpa using hq))), (fun hq => (h6 (by simpa using hq))), (fun _ => ⟨by simp [hdep.2.2.2.2], E48⟩), (fun hq => ⟨by simp [(h8 (by simpa using hq)).1], (h8 (by simpa using hq)).2⟩), (fun hq => (h9 (by simpa using hq)))⟩
              | 8, ho =>
                simp only [List.getElem?_toArray, List.getElem?_cons_zero, List.getElem?_cons_succ, Option.some.injEq] at ho
                subst ho
                simp [Region.binds] at hdep
                refine stp_move rfl (by first | exact .inl rfl | exact .inr rfl) ?_
                refine hK _ _ ⟨x44, x45, x46, x47, x48, x49, x50, x6, _, x8, setA_put (i := 8) _ rfl ND, hB, hX, (fun hq => (h0 (by simpa using hq))), (fun hq hq4 => (h1 (by simpa using hq) (by simpa using hq4))), (fun hq => (h2 (by simpa using hq))), (fun hq hq4 => (h3 (by simpa using hq) (by simpa using hq4))), (fun hq => (h4 (by simpa using hq))), (fun hq => (h5 (by simpa using hq))), (fun hq => (h6 (by simpa using hq))), (fun hq => ⟨by simp [(h7 (by simpa using hq)).1], (h7 (by simpa using hq)).2⟩), (fun _ => ⟨by simp [hdep], E50⟩), (fun hq => (h9 (by simpa using hq)))⟩
              | 9, ho =>
                simp only [List.getElem?_toArray, List.getElem?_cons_zero, List.getElem?_cons_succ, Option.some.injEq] at ho
                subst ho
                simp [Region.binds] at hdep
                refine stp_move rfl (by first | exact .inl rfl | exact .inr rfl) ?_
                refine hK _ _ ⟨x44, x45, x46, x47, x48, x49, x50, x6, x7, _, setA_put (i := 9) _ rfl ND, hB, hX, (fun hq => (h0 (by simpa using hq))), (fun hq hq4 => (h1 (by simpa using hq) (by simpa using hq4))), (fun hq => (h2 (by simpa using hq))), (fun hq hq4 => (h3 (by simpa using hq) (by simpa using hq4))), (fun hq => (h4 (by simpa using hq))), (fun hq => (h5 (by simpa using hq))), (fun hq => (h6 (by simpa using hq))), (fun hq => ⟨by simp [(h7 (by simpa using hq)).1], (h7 (by simpa using hq)).2⟩), (fun hq => ⟨by simp [(h8 (by simpa using hq)).1], (h8 (by simpa using hq)).2⟩), (fun _ => rfl)⟩
              | i + 10, ho => simp at ho
            · intro L a' W hI hall
              obtain ⟨x44, x45, x46, x47, x48, x49, x50, x6, x7, x8, rfl, hB, hX, h0, h1, h2, h3, h4, h5, h6, h7, h8, h9⟩ := hI
              have ND : ([(44, x44), (45, x45), (46, x46), (47, x47), (48, x48), (49, x49), (50, x50), (6, x6), (7, x7), (8, x8)].map (·.1)).Nodup := by simp
              have E6 : (setA a0 [(44, x44), (45, x45), (46, x46), (47, x47), (48, x48), (49, x49), (50, x50), (6, x6), (7, x7), (8, x8)]).eval (.tmp 6) = x6 := setA_in (k := 6) (i := 7) (by rw [hs]; decide) rfl ND
              have E7 : (setA a0 [(44, x44), (45, x45), (46, x46), (47, x47), (48, x48), (49, x49), (50, x50), (6, x6), (7, x7), (8, x8)]).eval (.tmp 7) = x7 := setA_in (k := 7) (i := 8) (by rw [hs]; decide) rfl ND
              have E8 : (setA a0 [(44, x44), (45, x45), (46, x46), (47, x47), (48, x48), (49, x49), (50, x50), (6, x6), (7, x7), (8, x8)]).eval (.tmp 8) = x8 := setA_in (k := 8) (i := 9) (by rw [hs]; decide) rfl ND
              have H4 := h4 (hall 4 (by decide))
              have e6 := (h7 (hall 7 (by decide))).2
              have e7 := (h8 (hall 8 (by decide))).2.trans (h6 (hall 6 (by decide)))
              have e8 := h9 (hall 9 (by decide))
              have HD : (setA a0 [(44, x44), (45, x45), (46, x46), (47, x47), (48, x48), (49, x49), (50, x50), (6, x6), (7, x7), (8, x8)]).defers = [] := (setA_defers _ _).trans hdf
              have HH := Lib.hid (And.intro (E6.trans e6) (And.intro (E7.trans e7) (And.intro (E8.trans e8) (And.intro H4 (And.intro hB HD)))))
              clear HD E6 E7 E8 H4 e6 e7 e8 hB hX h0 h1 h2 h3 h4 h5 h6 h7 h8 h9 ND hall
              obtain ⟨a1, ha1⟩ : ∃ a1, setA a0 [(44, x44), (45, x45), (46, x46), (47, x47), (48, x48), (49, x49), (50, x50), (6, x6), (7, x7), (8, x8)] = a1 := ⟨_, rfl⟩
              rw [ha1] at HH ⊢
              clear ha1
              go_wp2
              refine bodyPost_ret (results_tmp3 rfl _ _ _) HH.out.2.2.2.2.2 ⟨x48, ?_, HH.out.2.2.2.1, HH.out.2.2.2.2.1⟩
              rw [eval_tmp, eval_tmp, eval_tmp, HH.out.1, HH.out.2.1, HH.out.2.2.1]
def ledger_Ask.f (l0 : List OpenS) (a1 : Int) (a2_0 : Int) (a2_1 : Int) (a2_2 : Int) (a2_3 : Bool) (a2_4 : Int) (a2_5 : Int) (a2_6 : Int) (a2_7 : Bool) (a2_8 : Int) : Option (List OpenS × Int × Int) :=
  if (l0.length + 1) * 64 ≤ 140737488355328 ∧ 0 ≤ a1 then some (askL l0 a1 ⟨⟨a2_0, a2_1, a2_2, a2_3, a2_4⟩, a2_5, a2_6, a2_7, a2_8⟩) else none
theorem ledger_Ask.calls (A0 : Option Addr) (c0 : Nat) (l0 : List OpenS) (a1 : Int) (a2_0 : Int) (a2_1 : Int) (a2_2 : Int) (a2_3 : Bool) (a2_4 : Int) (a2_5 : Int) (a2_6 : Int) (a2_7 : Bool) (a2_8 : Int) (r1 : List OpenS) (r2 : Int) (r3 : Int) (w : World) (hr0 : Kd.C k61 w A0 l0.length l0) (hc0 : l0.length ≤ c0) (h : ledger_Ask.f l0 a1 a2_0 a2_1 a2_2 a2_3 a2_4 a2_5 a2_6 a2_7 a2_8 = some (r1, r2, r3)) :
    Calls Try.prog 25 #[.slice A0 l0.length c0, .int .u64 a1, .agg #[.int .u8 a2_0, .int .u64 a2_1, .int .i64 a2_2, .bool a2_3, .int .u64 a2_4, .int .u64 a2_5, .int .i64 a2_6, .bool a2_7, .int .u32 a2_8]] w fun e w' => ∃ v0_ : Value, e = .returned (.tuple #[v0_, .int .u64 r2, .int .i64 r3]) ∧ Kd.R k61 61 w' w.heap.size (fun _ => True) v0_ r1 ∧ Below w.heap.size w w' := by
  unfold ledger_Ask.f at h
  by_cases hq : (l0.length + 1) * 64 ≤ 140737488355328 ∧ 0 ≤ a1
  case neg => rw [if_neg hq] at h; cases h
  rw [if_pos hq] at h
  have h2 := Option.some.inj h
  have K := ask_walk A0 c0 l0 a1 ⟨⟨a2_0, a2_1, a2_2, a2_3, a2_4⟩, a2_5, a2_6, a2_7, a2_8⟩ w hr0 hc0 hq.1 hq.2
  rw [h2] at K
  exact K
end Go.Proofs.Ytaoflcmjmhfblaa.Q
