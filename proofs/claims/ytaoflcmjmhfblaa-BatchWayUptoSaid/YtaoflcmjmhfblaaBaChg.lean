/- (*batch.reader).change. -/
import Derived.Test.YtaoflcmjmhfblaaBaRead
namespace Go.Proofs.Ytaoflcmjmhfblaa.D
open Go.RowKit Go.Proofs.YtaoflcmjmhfblaaW.PrintWords Go.Proofs.YtaoflcmjmhfblaaW.PrintLast Go.Proofs.YtaoflcmjmhfblaaW.PrintMore Go.Proofs.Ytaoflcmjmhfblaa.H Go.Shelf
set_option linter.unusedVariables false
set_option linter.unusedSimpArgs false
/-- A change off a reader: the change and what is left, or an error. -/
def chgR (rest : List Int) : Except Int (ChgS × List Int) :=
  if rest.length < 1 then .error 4 else
  if (rest.drop 1).length < (valLE (rest.take 1)).toNat then .error 4 else
  if ((rest.drop 1).drop (valLE (rest.take 1)).toNat).length < 1 then .error 4 else
  if 1 < valLE (((rest.drop 1).drop (valLE (rest.take 1)).toNat).take 1) then .error 5 else
  if valLE (((rest.drop 1).drop (valLE (rest.take 1)).toNat).take 1) = 1 then .ok (⟨strOfNums ((rest.drop 1).take (valLE (rest.take 1)).toNat), [], true⟩, ((rest.drop 1).drop (valLE (rest.take 1)).toNat).drop 1) else
  if (((rest.drop 1).drop (valLE (rest.take 1)).toNat).drop 1).length < 4 then .error 4 else
  if 524288 < valLE ((((rest.drop 1).drop (valLE (rest.take 1)).toNat).drop 1).take 4) then .error 3 else
  if ((((rest.drop 1).drop (valLE (rest.take 1)).toNat).drop 1).drop 4).length < (valLE ((((rest.drop 1).drop (valLE (rest.take 1)).toNat).drop 1).take 4)).toNat then .error 4 else
  .ok (⟨strOfNums ((rest.drop 1).take (valLE (rest.take 1)).toNat), ((((rest.drop 1).drop (valLE (rest.take 1)).toNat).drop 1).drop 4).take (valLE ((((rest.drop 1).drop (valLE (rest.take 1)).toNat).drop 1).take 4)).toNat, false⟩,
    ((((rest.drop 1).drop (valLE (rest.take 1)).toNat).drop 1).drop 4).drop (valLE ((((rest.drop 1).drop (valLE (rest.take 1)).toNat).drop 1).take 4)).toNat)
/-- The same, of the parts (r1 behind the first number n, r2 behind the key, r3 behind the mark g, r4 behind the number m). -/
def chgP (rest r1 r2 r3 r4 : List Int) (n : Nat) (g m : Int) : Except Int (ChgS × List Int) :=
  if rest.length < 1 then .error 4 else if r1.length < n then .error 4 else if r2.length < 1 then .error 4 else if 1 < g then .error 5 else
  if g = 1 then .ok (⟨strOfNums (r1.take n), [], true⟩, r3) else if r3.length < 4 then .error 4 else if 524288 < m then .error 3 else
  if r4.length < m.toNat then .error 4 else .ok (⟨strOfNums (r1.take n), r4.take m.toNat, false⟩, r4.drop m.toNat)
theorem chgR_P (rest : List Int) : ∃ r1 r2 r3 r4 n g m, rest.drop 1 = r1 ∧ (valLE (rest.take 1)).toNat = n ∧ r1.drop n = r2 ∧ valLE (r2.take 1) = g ∧ r2.drop 1 = r3 ∧ valLE (r3.take 4) = m ∧ r3.drop 4 = r4 ∧ chgR rest = chgP rest r1 r2 r3 r4 n g m :=
  ⟨_, _, _, _, _, _, _, rfl, rfl, rfl, rfl, rfl, rfl, rfl, rfl⟩
def ChgPost (w0 : World) (gr : Nat) (W : World) (out : Except Int (ChgS × List Int)) (e : Ending) (w' : World) : Prop :=
  match out with
  | .error c => (∃ k A n cc b, e = .returned (.tuple #[.agg #[.string k, .slice A n cc, .bool b], .int .i64 c])) ∧ Below w0.heap.size w0 w'
  | .ok (x, r) => ∃ v1, e = .returned (.tuple #[.agg #[.string x.f0, v1, .bool x.f2], .int .i64 0]) ∧ Kd.R (Kd.int .u8) 5 w' W.heap.size (fun _ => True) v1 x.f1 ∧ RdI w0 gr r w' ∧ KeepBut W w' gr none
/-- On the way: the reader, and the variable x in block gx. -/
structure Mid (w0 : World) (gr : Nat) (W : World) (cells : Array Value) (rest : List Int) (V : World) : Prop where
  r : RdI w0 gr rest V
  x : V.heap[W.heap.size]? = some (.cells cells 96 (0, 0))
  k : KeepBut W V gr none
  g : gr < W.heap.size
  w : w0.heap.size ≤ W.heap.size
theorem Mid.only {w0 W V V' : World} {gr : Nat} {cells : Array Value} {rest rest' : List Int} (h : Mid w0 gr W cells rest V) (hr : RdI w0 gr rest' V') (ho : Only gr V V') : Mid w0 gr W cells rest' V' := by
  obtain ⟨h1, h2, h3, h4, h5⟩ := h
  refine ⟨hr, (ho.k _ (by omega)).trans h2, ⟨by have := h3.1; rw [ho.size]; exact this, fun i hi hg hn => (ho.k i hg).trans (h3.2 i hi hg hn)⟩, h4, h5⟩
theorem Mid.set {w0 W V : World} {gr : Nat} {cells : Array Value} {rest : List Int} (h : Mid w0 gr W cells rest V) (j : Nat) (v : Value) : Mid w0 gr W (cells.setIfInBounds j v) rest (V.setCell ⟨W.heap.size, j, none⟩ v) := by
  obtain ⟨⟨⟨A, c, ha, hb, hc⟩, hd, he⟩, h2, h3, h4, h5⟩ := h
  refine ⟨⟨⟨A, c, (heap_setCell_out j v (by omega)).trans ha, hb, hc⟩, below_set hd h5, he⟩, heap_setCell_in h2 j v, ⟨by simpa [World.setCell] using h3.1, fun i hi hg hn => (heap_setCell_out j v (by omega)).trans (h3.2 i hi hg hn)⟩, h4, h5⟩
theorem Mid.row {w0 W V : World} {gr : Nat} {cells : Array Value} {rest : List Int} (h : Mid w0 gr W cells rest V) : Mid w0 gr W cells rest (V.setRow W.heap.size cells) := by
  obtain ⟨⟨⟨A, c, ha, hb, hc⟩, hd, he⟩, h2, h3, h4, h5⟩ := h
  refine ⟨⟨⟨A, c, (setRow_other V _ gr cells (by omega)).trans ha, hb, hc⟩, below_setRow hd h5 _, he⟩, setRow_heap V _ _ _ _ _ h2, ⟨by simpa [World.setRow] using h3.1, fun i hi hg hn => (setRow_other V _ i cells (by omega)).trans (h3.2 i hi hg hn)⟩, h4, h5⟩
theorem Mid.grow {w0 W V V' : World} {gr : Nat} {cells : Array Value} {rest : List Int} (h : Mid w0 gr W cells rest V) (hb : Below V.heap.size V V') : Mid w0 gr W cells rest V' := by
  obtain ⟨h1, h2, h3, h4, h5⟩ := h
  exact ⟨h1.later hb, blk_call hb h2, h3.trans (KeepBut.of_below hb gr none) (.inl rfl), h4, h5⟩
theorem Mid.start {w0 W : World} {gr : Nat} {rest : List Int} (h : RdI w0 gr rest W) (cells : Array Value) : Mid w0 gr W cells rest (W.alloc (.cells cells 96 (0, 0))) := by
  have hb := (Below.refl W.heap.size W).alloc (Nat.le_refl _) (.cells cells 96 (0, 0))
  obtain ⟨A, c, h1, _⟩ := h.c
  exact ⟨h.later hb, heap_alloc_new _ _, KeepBut.of_below hb gr none, blk_lt h1, h.b.size⟩
set_option maxHeartbeats 8000000 in
set_option maxRecDepth 100000 in
theorem change_calls (w0 : World) (gr : Nat) (rest : List Int) (W : World) (h : RdI w0 gr rest W) (hB : Bytes rest) :
    Calls Try.prog 98 #[.pointer (some ⟨gr, 0, none⟩)] W (ChgPost w0 gr W (chgR rest)) := by
  obtain ⟨r1, r2, r3, r4, n, g, m, e1, en, e2, eg, e3, em, e4, eo⟩ := chgR_P rest
  obtain ⟨out, hout⟩ : ∃ out, chgR rest = out := ⟨_, rfl⟩
  rw [hout]
  rw [hout] at eo
  have HOUT := Lib.hid eo
  have hB1 : Bytes r1 := fun x hx => hB x (by rw [← e1] at hx; exact List.mem_of_mem_drop hx)
  have hB2 : Bytes r2 := fun x hx => hB1 x (by rw [← e2] at hx; exact List.mem_of_mem_drop hx)
  have hB3 : Bytes r3 := fun x hx => hB2 x (by rw [← e3] at hx; exact List.mem_of_mem_drop hx)
  have nn : ∀ l : List Int, Bytes l → 0 ≤ valLE l := fun l hl => (valLE_bd hl).1
  have ent : ∀ (l : List Int) k, Bytes l → Bytes (l.take k) := fun l k hl x hx => hl x (List.mem_of_mem_take hx)
  have env : valLE (rest.take 1) = (n : Int) := by rw [← en]; exact (Int.toNat_of_nonneg (nn _ (ent _ _ hB))).symm
  obtain ⟨mm, emm⟩ : ∃ mm : Nat, m = (mm : Int) := ⟨m.toNat, (Int.toNat_of_nonneg (by rw [← em]; exact nn _ (ent _ _ hB3))).symm⟩
  have hg0 : 0 ≤ g := by rw [← eg]; exact nn _ (ent _ _ hB2)
  subst emm
  have M0 := Lib.hid (Mid.start h #[.string ⟨#[]⟩, .slice none 0 0, .bool false])
  have HX := Lib.hid (M0.out.x)
  clear hout eo h en
  by_cases c1 : rest.length < 1
  · have ho : out = .error 4 := by rw [HOUT.out]; unfold chgP; rw [if_pos (by omega)]
    subst ho
    have KS := Lib.hid (number_short w0 gr rest 1 _ M0.out.r c1)
    clear HOUT e1 e2 e3 e4 eg em env
    go_enter Try.func98, Try.ntmps98
    go_wp2_with (first | (go_at_call 97; refine KS.out.mono ?_; rintro e w9 ⟨rfl, rfl⟩) | ((with_reducible refine gate_load 96 rfl ?_); refine wpList_load_row rfl 96 _ rfl _ rfl 96 _ _ _ HX.out Try.underlying96 rfl (by kernel_rfl) ?_) | ((with_reducible refine gate_storeT 96 rfl ?_); refine wpList_store_row rfl 96 _ _ rfl _ _ rfl rfl 96 _ HX.out (by kernel_rfl) rfl (by simp [Value.oneCell']) ?_))
    exact bodyPost_ret (res_cell_tmp rfl rfl (run_loadVar_box 96 _ 96 _ _ _ (M0.out.row).x Try.underlying96 rfl (by kernel_rfl))) rfl ⟨⟨_, _, _, _, _, rfl⟩, (M0.out.row).r.b⟩
  have K1 := Lib.hid (number_ok w0 gr rest 1 _ M0.out.r (by omega) (.inl rfl) hB)
  rw [e1, env] at K1
  go_enter Try.func98, Try.ntmps98
  go_upto_region 4 with (first | (go_at_call 97; refine K1.out.mono ?_; rintro e w1 ⟨rfl, hr1, ho1⟩; have M1 := Lib.hid (M0.out.only hr1 ho1); clear hr1 ho1))
  have HX := Lib.hid (M1.out.x)
  clear M0 K1
  by_cases c2 : r1.length < n
  · have ho : out = .error 4 := by rw [HOUT.out]; unfold chgP; rw [if_neg (by omega), if_pos (by omega)]
    subst ho
    have KS := Lib.hid (take_short w0 gr r1 n _ M1.out.r c2)
    clear HOUT e1 e2 e3 e4 eg em env
    go_wp2_with (first | (go_at_call 149; refine KS.out.mono ?_; rintro e w9 ⟨rfl, rfl⟩) | ((with_reducible refine gate_load 96 rfl ?_); refine wpList_load_row rfl 96 _ rfl _ rfl 96 _ _ _ HX.out Try.underlying96 rfl (by kernel_rfl) ?_) | ((with_reducible refine gate_storeT 96 rfl ?_); refine wpList_store_row rfl 96 _ _ rfl _ _ rfl rfl 96 _ HX.out (by kernel_rfl) rfl (by simp [Value.oneCell']) ?_))
    exact bodyPost_ret (res_cell_tmp rfl rfl (run_loadVar_box 96 _ 96 _ _ _ (M1.out.row).x Try.underlying96 rfl (by kernel_rfl))) rfl ⟨⟨_, _, _, _, _, rfl⟩, (M1.out.row).r.b⟩
  have K2 := Lib.hid (take_ok w0 gr r1 n _ M1.out.r (by omega))
  rw [e2] at K2
  obtain ⟨kk, hkk⟩ : ∃ kk, strOfNums (r1.take n) = kk := ⟨_, rfl⟩
  have HKK := Lib.hid hkk
  go_upto_region 8 with (first | (go_at_call 149; refine K2.out.mono ?_; rintro e w2 ⟨A2, rfl, hc2, hr2, ho2⟩; have M2 := Lib.hid (M1.out.only hr2 ho2); have hcv := Kd.C_string (P := Try.prog) (A := A2) (c := n) Try.underlying76 Try.underlying5 Try.underlying9 (Kd.C_below hc2 hr2.b); rw [hkk] at hcv; have hcx := blk_cellk M2.out.x 0 rfl; have hfx : w2.frozen? ⟨W.heap.size, 0, none⟩ = false := (by simp [World.frozen?, M2.out.x]); clear hr2 ho2 hc2))
  have M3 := Lib.hid (M2.out.set 0 (.string kk))
  have HX : Hid ((w2.setCell ⟨W.heap.size, 0, none⟩ (.string kk)).heap[W.heap.size]? = some (.cells #[.string kk, .slice none 0 0, .bool false] 96 (0, 0))) := Lib.hid M3.out.x
  have M3 : Hid (Mid w0 gr W #[.string kk, .slice none 0 0, .bool false] r2 (w2.setCell ⟨W.heap.size, 0, none⟩ (.string kk))) := Lib.hid M3.out
  generalize (w2.setCell ⟨W.heap.size, 0, none⟩ (.string kk)) = w3 at M3 HX ⊢
  clear M1 M2 K2 hcv hcx hfx hkk
  by_cases c3 : r2.length < 1
  · have ho : out = .error 4 := by rw [HOUT.out]; unfold chgP; rw [if_neg (by omega), if_neg (by omega), if_pos (by omega)]
    subst ho
    have KS := Lib.hid (number_short w0 gr r2 1 _ M3.out.r c3)
    clear HOUT e1 e2 e3 e4 eg em env
    go_wp2_with (first | (go_at_call 97; refine KS.out.mono ?_; rintro e w9 ⟨rfl, rfl⟩) | ((with_reducible refine gate_load 96 rfl ?_); refine wpList_load_row rfl 96 _ rfl _ rfl 96 _ _ _ HX.out Try.underlying96 rfl (by kernel_rfl) ?_) | ((with_reducible refine gate_storeT 96 rfl ?_); refine wpList_store_row rfl 96 _ _ rfl _ _ rfl rfl 96 _ HX.out (by kernel_rfl) rfl (by simp [Value.oneCell']) ?_))
    exact bodyPost_ret (res_cell_tmp rfl rfl (run_loadVar_box 96 _ 96 _ _ _ (M3.out.row).x Try.underlying96 rfl (by kernel_rfl))) rfl ⟨⟨_, _, _, _, _, rfl⟩, (M3.out.row).r.b⟩
  have K3 := Lib.hid (number_ok w0 gr r2 1 _ M3.out.r (by omega) (.inl rfl) hB2)
  rw [e3, eg] at K3
  go_upto_region 11 with (first | (go_at_call 97; refine K3.out.mono ?_; rintro e w4 ⟨rfl, hr4, ho4⟩; have M4 := Lib.hid (M3.out.only hr4 ho4); clear hr4 ho4))
  have HX := Lib.hid (M4.out.x)
  clear M3 K3
  by_cases c4 : 1 < g
  · have ho : out = .error 5 := by rw [HOUT.out]; unfold chgP; rw [if_neg (by omega), if_neg (by omega), if_neg (by omega), if_pos (by omega)]
    subst ho
    clear HOUT e1 e2 e3 e4 eg em env
    go_wp2_with (first | ((with_reducible refine gate_load 96 rfl ?_); refine wpList_load_row rfl 96 _ rfl _ rfl 96 _ _ _ HX.out Try.underlying96 rfl (by kernel_rfl) ?_) | ((with_reducible refine gate_storeT 96 rfl ?_); refine wpList_store_row rfl 96 _ _ rfl _ _ rfl rfl 96 _ HX.out (by kernel_rfl) rfl (by simp [Value.oneCell']) ?_))
    exact bodyPost_ret (res_cell_tmp rfl rfl (run_loadVar_box 96 _ 96 _ _ _ (M4.out.row).x Try.underlying96 rfl (by kernel_rfl))) rfl ⟨⟨_, _, _, _, _, rfl⟩, (M4.out.row).r.b⟩
  by_cases c5 : g = 1
  · have ho : out = .ok (⟨kk, [], true⟩, r3) := by rw [HOUT.out]; unfold chgP; rw [if_neg (by omega), if_neg (by omega), if_neg (by omega), if_neg (by omega), if_pos (by omega), HKK.out]
    subst ho
    subst c5
    have hcx := blk_cellk M4.out.x 2 rfl
    have hfx : w4.frozen? ⟨W.heap.size, 2, none⟩ = false := by simp [World.frozen?, M4.out.x]
    clear HOUT e1 e2 e3 e4 eg em env
    go_upto_region 15 with (fail)
    have M5 : Hid (Mid w0 gr W #[.string kk, .slice none 0 0, .bool true] r3 (w4.setCell ⟨W.heap.size, 2, none⟩ (.bool true))) := Lib.hid (M4.out.set 2 (.bool true))
    have HX := Lib.hid (M5.out.x)
    generalize (w4.setCell ⟨W.heap.size, 2, none⟩ (.bool true)) = w5 at M5 HX ⊢
    clear hcx hfx M4
    go_wp2_with (first | ((with_reducible refine gate_load 96 rfl ?_); refine wpList_load_row rfl 96 _ rfl _ rfl 96 _ _ _ HX.out Try.underlying96 rfl (by kernel_rfl) ?_) | ((with_reducible refine gate_storeT 96 rfl ?_); refine wpList_store_row rfl 96 _ _ rfl _ _ rfl rfl 96 _ HX.out (by kernel_rfl) rfl (by simp [Value.oneCell']) ?_))
    exact bodyPost_ret (res_cell_tmp rfl rfl (run_loadVar_box 96 _ 96 _ _ _ (M5.out.row).x Try.underlying96 rfl (by kernel_rfl))) rfl ⟨_, rfl, Kd.R_nil _ _ _ _ _, (M5.out.row).r, (M5.out.row).k⟩
  have hgz : g = 0 := by omega
  subst hgz
  go_upto_region 16 with (fail)
  by_cases c6 : r3.length < 4
  · have ho : out = .error 4 := by rw [HOUT.out]; unfold chgP; rw [if_neg (by omega), if_neg (by omega), if_neg (by omega), if_neg (by omega), if_neg (by omega), if_pos (by omega)]
    subst ho
    have KS := Lib.hid (number_short w0 gr r3 4 _ M4.out.r c6)
    clear HOUT e1 e2 e3 e4 eg em env
    go_wp2_with (first | (go_at_call 97; refine KS.out.mono ?_; rintro e w9 ⟨rfl, rfl⟩) | ((with_reducible refine gate_load 96 rfl ?_); refine wpList_load_row rfl 96 _ rfl _ rfl 96 _ _ _ HX.out Try.underlying96 rfl (by kernel_rfl) ?_) | ((with_reducible refine gate_storeT 96 rfl ?_); refine wpList_store_row rfl 96 _ _ rfl _ _ rfl rfl 96 _ HX.out (by kernel_rfl) rfl (by simp [Value.oneCell']) ?_))
    exact bodyPost_ret (res_cell_tmp rfl rfl (run_loadVar_box 96 _ 96 _ _ _ (M4.out.row).x Try.underlying96 rfl (by kernel_rfl))) rfl ⟨⟨_, _, _, _, _, rfl⟩, (M4.out.row).r.b⟩
  have K4 := Lib.hid (number_ok w0 gr r3 4 _ M4.out.r (by omega) (.inr rfl) hB3)
  rw [e4, em] at K4
  go_upto_region 19 with (first | (go_at_call 97; refine K4.out.mono ?_; rintro e w6 ⟨rfl, hr6, ho6⟩; have M6 := Lib.hid (M4.out.only hr6 ho6); clear hr6 ho6))
  have HX := Lib.hid (M6.out.x)
  clear M4 K4
  by_cases c7 : 524288 < (mm : Int)
  · have ho : out = .error 3 := by rw [HOUT.out]; unfold chgP; rw [if_neg (by omega), if_neg (by omega), if_neg (by omega), if_neg (by omega), if_neg (by omega), if_neg (by omega), if_pos (by omega)]
    subst ho
    clear HOUT e1 e2 e3 e4 eg em env
    go_wp2_with (first | ((with_reducible refine gate_load 96 rfl ?_); refine wpList_load_row rfl 96 _ rfl _ rfl 96 _ _ _ HX.out Try.underlying96 rfl (by kernel_rfl) ?_) | ((with_reducible refine gate_storeT 96 rfl ?_); refine wpList_store_row rfl 96 _ _ rfl _ _ rfl rfl 96 _ HX.out (by kernel_rfl) rfl (by simp [Value.oneCell']) ?_))
    exact bodyPost_ret (res_cell_tmp rfl rfl (run_loadVar_box 96 _ 96 _ _ _ (M6.out.row).x Try.underlying96 rfl (by kernel_rfl))) rfl ⟨⟨_, _, _, _, _, rfl⟩, (M6.out.row).r.b⟩
  go_upto_region 21 with (fail)
  by_cases c8 : r4.length < mm
  · have ho : out = .error 4 := by rw [HOUT.out]; unfold chgP; rw [if_neg (by omega), if_neg (by omega), if_neg (by omega), if_neg (by omega), if_neg (by omega), if_neg (by omega), if_neg (by omega), Int.toNat_natCast, if_pos (by omega)]
    subst ho
    have KS := Lib.hid (take_short w0 gr r4 mm _ M6.out.r c8)
    have KC : Hid (Calls Try.prog 103 #[.slice none 0 0] w6 fun e w' => ∃ v0_ : Value, e = .returned v0_ ∧ Kd.R (Kd.int .u8) 5 w' w6.heap.size (fun _ => True) v0_ [] ∧ Below w6.heap.size w6 w') := Lib.hid (clone_calls none 0 [] w6 ⟨rfl, by simp [maxLen], fun h => absurd h (by simp)⟩ (by simp))
    clear HOUT e1 e2 e3 e4 eg em env
    go_upto_region 23 with (first
      | (go_at_call 149; refine KS.out.mono ?_; rintro e w9 ⟨rfl, rfl⟩)
      | (go_at_call 103; refine KC.out.mono ?_; rintro e w7 ⟨v7, rfl, ho7, hb7⟩; have M7 := Lib.hid (M6.out.grow hb7); obtain ⟨A7, n7, c7', hv7⟩ : ∃ A n c, v7 = Value.slice A n c := (by obtain ⟨A, c, e⟩ := Kd.R_slice ho7; exact ⟨A, _, c, e⟩); subst hv7; have hcx := blk_cellk M7.out.x 1 rfl; have hfx : w7.frozen? ⟨W.heap.size, 1, none⟩ = false := (by simp [World.frozen?, M7.out.x]); clear ho7 hb7))
    have M8 : Hid (Mid w0 gr W #[.string kk, .slice A7 n7 c7', .bool false] r4 (w7.setCell ⟨W.heap.size, 1, none⟩ (.slice A7 n7 c7'))) := Lib.hid (M7.out.set 1 _)
    have HX := Lib.hid (M8.out.x)
    generalize (w7.setCell ⟨W.heap.size, 1, none⟩ (.slice A7 n7 c7')) = w8 at M8 HX ⊢
    clear hcx hfx M7
    go_wp2_with (first | ((with_reducible refine gate_load 96 rfl ?_); refine wpList_load_row rfl 96 _ rfl _ rfl 96 _ _ _ HX.out Try.underlying96 rfl (by kernel_rfl) ?_) | ((with_reducible refine gate_storeT 96 rfl ?_); refine wpList_store_row rfl 96 _ _ rfl _ _ rfl rfl 96 _ HX.out (by kernel_rfl) rfl (by simp [Value.oneCell']) ?_))
    exact bodyPost_ret (res_cell_tmp rfl rfl (run_loadVar_box 96 _ 96 _ _ _ (M8.out.row).x Try.underlying96 rfl (by kernel_rfl))) rfl ⟨⟨_, _, _, _, _, rfl⟩, (M8.out.row).r.b⟩
  have ho : out = .ok (⟨kk, r4.take mm, false⟩, r4.drop mm) := by rw [HOUT.out]; unfold chgP; rw [if_neg (by omega), if_neg (by omega), if_neg (by omega), if_neg (by omega), if_neg (by omega), if_neg (by omega), if_neg (by omega), Int.toNat_natCast, if_neg (by omega), HKK.out]
  subst ho
  have K5 := Lib.hid (take_ok w0 gr r4 mm _ M6.out.r (by omega))
  have KC := Lib.hid (fun A V (hC : Kd.C (Kd.int .u8) V A (r4.take mm).length (r4.take mm)) => clone_calls A mm (r4.take mm) V hC (by rw [List.length_take]; omega))
  have hl : (r4.take mm).length = mm := by rw [List.length_take]; omega
  rw [hl] at KC
  obtain ⟨T, hT⟩ : ∃ T, r4.take mm = T := ⟨_, rfl⟩
  obtain ⟨DD, hDD⟩ : ∃ DD, r4.drop mm = DD := ⟨_, rfl⟩
  rw [hT, hDD] at K5 ⊢
  rw [hT] at KC
  have HT := Lib.hid hT
  have HDD := Lib.hid hDD
  clear HOUT e1 e2 e3 e4 eg em env hT hDD hl
  go_upto_region 23 with (first
    | (go_at_call 149; refine K5.out.mono ?_; rintro e w6b ⟨A6, rfl, hc6, hr6, ho6⟩; have M6b := Lib.hid (M6.out.only hr6 ho6); have KC1 := Lib.hid (KC.out A6 w6b (Kd.C_below hc6 hr6.b)); clear hr6 ho6 hc6)
    | (go_at_call 103; refine KC1.out.mono ?_; rintro e w7 ⟨v7, rfl, ho7, hb7⟩; have M7 := Lib.hid (M6b.out.grow hb7); have HV7 := Lib.hid (Kd.R_lower ho7 M6b.out.k.1); obtain ⟨A7, n7, c7', hv7⟩ : ∃ A n c, v7 = Value.slice A n c := (by obtain ⟨A, c, e⟩ := Kd.R_slice ho7; exact ⟨A, _, c, e⟩); subst hv7; have hcx := blk_cellk M7.out.x 1 rfl; have hfx : w7.frozen? ⟨W.heap.size, 1, none⟩ = false := (by simp [World.frozen?, M7.out.x]); have HVN := Lib.hid (Kd.R_ne HV7.out M7.out.x (by decide)); clear ho7 hb7))
  have HV8 := Lib.hid (Kd.R_far (Kd.R_far1 HV7.out rfl HVN.out) (p := ⟨W.heap.size, 1, none⟩) (fun k hk => hk.2) (.slice A7 n7 c7'))
  have M8 : Hid (Mid w0 gr W #[.string kk, .slice A7 n7 c7', .bool false] DD (w7.setCell ⟨W.heap.size, 1, none⟩ (.slice A7 n7 c7'))) := Lib.hid (M7.out.set 1 _)
  have HX := Lib.hid (M8.out.x)
  generalize (w7.setCell ⟨W.heap.size, 1, none⟩ (.slice A7 n7 c7')) = w8 at M8 HX HV8 ⊢
  clear hcx hfx M7
  go_wp2_with (first | ((with_reducible refine gate_load 96 rfl ?_); refine wpList_load_row rfl 96 _ rfl _ rfl 96 _ _ _ HX.out Try.underlying96 rfl (by kernel_rfl) ?_) | ((with_reducible refine gate_storeT 96 rfl ?_); refine wpList_store_row rfl 96 _ _ rfl _ _ rfl rfl 96 _ HX.out (by kernel_rfl) rfl (by simp [Value.oneCell']) ?_))
  have HV9 := Kd.R_mono (ok' := fun _ => True) (Kd.R_step HV8.out (fun k ho _ => setRow_other w8 W.heap.size k #[.string kk, .slice A7 n7 c7', .bool false] ho.2)) (fun _ _ => trivial)
  have hT := HT.out
  subst hT
  have hDD := HDD.out
  subst hDD
  exact bodyPost_ret (res_cell_tmp rfl rfl (run_loadVar_box 96 _ 96 _ _ _ (M8.out.row).x Try.underlying96 rfl (by kernel_rfl))) rfl ⟨_, rfl, HV9, (M8.out.row).r, (M8.out.row).k⟩
end Go.Proofs.Ytaoflcmjmhfblaa.D
