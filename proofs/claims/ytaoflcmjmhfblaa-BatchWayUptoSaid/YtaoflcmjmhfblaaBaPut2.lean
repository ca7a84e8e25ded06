/- batch.Put: the walk. -/
import Derived.Test.YtaoflcmjmhfblaaBaPut
namespace Go.Proofs.Ytaoflcmjmhfblaa.D
open Go.RowKit Go.Proofs.YtaoflcmjmhfblaaW.PrintWords Go.Proofs.YtaoflcmjmhfblaaW.PrintLast Go.Proofs.YtaoflcmjmhfblaaW.PrintMore Go.Proofs.Ytaoflcmjmhfblaa.H Go.Shelf
set_option linter.unusedVariables false
set_option linter.unusedSimpArgs false
theorem blk_cellk {W : World} {g t : Nat} {cs : Array Value} {fr : Nat × Nat} {v : Value} (h : W.heap[g]? = some (.cells cs t fr)) (k : Nat) (hk : cs[k]? = some v) : W.cell? ⟨g, k, none⟩ = some v := by
  simp only [World.cell?, h]; exact hk
/-- The bytes of a change. -/
def chgB (x : ChgS) : List Int := IntKind.u8.wrap (x.f0.size : Int) :: bytesOf x.f0 ++ (if x.f2 then [1] else 0 :: countL x.f1.length ++ x.f1)
theorem chgB_eqt {x : ChgS} (h : x.f2 = true) : chgB x = IntKind.u8.wrap (x.f0.size : Int) :: bytesOf x.f0 ++ [1] := by
  unfold chgB
  rw [h]
  rfl
theorem chgB_eqf {x : ChgS} (h : x.f2 = false) : chgB x = IntKind.u8.wrap (x.f0.size : Int) :: bytesOf x.f0 ++ (0 :: countL x.f1.length ++ x.f1) := by
  unfold chgB
  rw [h]
  rfl
theorem chgB_t {x : ChgS} (h : x.f2 = true) : (chgB x).length = 1 + x.f0.size + 1 := by
  rw [chgB_eqt h]
  generalize IntKind.u8.wrap (x.f0.size : Int) = q
  simp only [List.length_append, List.length_cons, bytesOf_length, List.length_nil]
  omega
theorem len_f (q : Int) (b c d : List Int) : (q :: b ++ (0 :: c ++ d)).length = 1 + b.length + (1 + c.length + d.length) := by
  simp only [List.length_append, List.length_cons]
  omega
theorem chgB_f {x : ChgS} (h : x.f2 = false) : (chgB x).length = 1 + x.f0.size + (1 + (countL x.f1.length).length + x.f1.length) := by
  rw [← bytesOf_length]
  exact (congrArg List.length (chgB_eqf h)).trans (len_f _ _ _ _)
theorem chgB_ge (x : ChgS) : 1 + x.f0.size ≤ (chgB x).length := by
  cases h : x.f2 with
  | true => have := chgB_t h; omega
  | false => have := chgB_f h; omega
def putL (l : List ChgS) : List Int := countL l.length ++ l.flatMap chgB
def batch_Put.f (l0 : List ChgS) : Option (List Int × Int) := if mayC l0 then (if (putL l0).length ≤ 140737488355328 then some (putL l0, 0) else none) else some ([], 2)
theorem put_take (l : List ChgS) (i : Nat) (y : ChgS) (h : l[i]? = some y) : countL l.length ++ (l.take (i + 1)).flatMap chgB = (countL l.length ++ (l.take i).flatMap chgB) ++ chgB y := by
  rw [List.take_add_one, h]; simp
theorem put_len (l : List ChgS) (i : Nat) : (countL l.length ++ (l.take i).flatMap chgB).length ≤ (putL l).length := by
  unfold putL
  have : l.flatMap chgB = (l.take i).flatMap chgB ++ (l.drop i).flatMap chgB := by rw [← List.flatMap_append, List.take_append_drop]
  rw [this]
  simp only [List.length_append]
  omega
set_option maxHeartbeats 8000000 in
set_option maxRecDepth 100000 in
theorem batch_Put.calls (A0 : Option Addr) (c0 : Nat) (l0 : List ChgS) (r1 : List Int) (r2 : Int) (w : World) (hr0 : Kd.C kChg w A0 l0.length l0) (hc0 : l0.length ≤ c0) (h : batch_Put.f l0 = some (r1, r2)) :
    Calls Try.prog 32 #[.slice A0 l0.length c0] w fun e w' => ∃ v0_ : Value, e = .returned (.tuple #[v0_, .int .i64 r2]) ∧ Kd.R (Kd.int .u8) 5 w' w.heap.size (fun _ => True) v0_ r1 ∧ Below w.heap.size w w' := by
  unfold batch_Put.f at h
  have K1 := Lib.hid (batch_MayChange.calls A0 c0 l0 (mayC l0) w hr0 hc0 rfl)
  have hm := Kd.C_max hr0
  cases hmc : mayC l0 with
  | false =>
    rw [hmc] at h K1
    simp only [Bool.false_eq_true, if_false, Option.some.injEq, Prod.mk.injEq] at h
    obtain ⟨rfl, rfl⟩ := h
    clear hr0 hc0 hm hmc
    go_enter Try.func32, Try.ntmps32
    go_wp2_with (first | (go_at_call 33; refine K1.out.mono ?_; rintro e w1 ⟨rfl, hb1⟩; have HB1 := Lib.hid hb1; clear hb1))
    go_ret2
    exact ⟨_, rfl, Kd.R_nil _ _ _ _ _, HB1.out⟩
  | true =>
  rw [hmc] at h K1
  rw [if_pos rfl] at h
  by_cases hsz : (putL l0).length ≤ 140737488355328
  case neg => rw [if_neg hsz] at h; cases h
  rw [if_pos hsz] at h
  have HLEN := Lib.hid (fun i => Nat.le_trans (put_len l0 i) hsz)
  simp only [Option.some.injEq, Prod.mk.injEq] at h
  obtain ⟨rfl, rfl⟩ := h
  have KC := Lib.hid (fun W => count_calls l0.length (by omega) W)
  have HC := Lib.hid hr0
  have hp0 : putL l0 = countL l0.length ++ (l0.take l0.length).flatMap chgB := by rw [List.take_length]; rfl
  have HP := Lib.hid hp0
  have HTK := Lib.hid (put_take l0)
  obtain ⟨n, hn⟩ : ∃ n, l0.length = n := ⟨_, rfl⟩
  have HN := Lib.hid hn
  rw [hn] at K1 KC HC HLEN HP HTK hm ⊢
  clear hn hr0 hc0 hsz hp0 hmc
  go_enter Try.func32, Try.ntmps32
  go_wp2_with (first
    | (go_at_call 33; refine K1.out.mono ?_; rintro e w1 ⟨rfl, hb1⟩; have HB1 := Lib.hid hb1; clear hb1)
    | (go_at_call 91; refine (KC.out _).mono ?_; rintro e w2 ⟨v2, rfl, ho2, hb2⟩; have HO2 := Lib.hid (Kd.R_lower ho2 HB1.out.size); have HB2 := Lib.hid (below_step HB1.out hb2); clear hb2 ho2))
  go_loopw [4, 15] (fun v4 v15 wr => ∃ (i : Nat), i ≤ n ∧ v15 = .int .i64 i ∧ Hid (Kd.R (Kd.int .u8) 5 wr w.heap.size (fun _ => True) v4 (countL n ++ (l0.take i).flatMap chgB)) ∧ Hid (Below w.heap.size w wr)) (fun _ v15 _ => n - (intOf v15).toNat)
  case atStart => exact ⟨0, Nat.zero_le _, rfl, Lib.hid (by simpa using HO2.out), HB2⟩
  case round =>
    rename_i u4 u15
    obtain ⟨i, hi, rfl, HO, HB⟩ := hrel
    by_cases hlt : i < n
    · have hltz : (i : Int) < (n : Int) := by omega
      have w1e : IntKind.i64.wrap ((i : Int) + 1) = (i : Int) + 1 := by rw [IntKind.wrap_i64]; omega
      obtain ⟨ad, cs, ea, _, hcs, hcc⟩ := Kd.C_get HC.out z96 (i : Int) (by omega) (by omega)
      subst ea
      rw [Int.toNat_natCast] at hcs hcc
      obtain ⟨Ay, cy, rfl, hly, hCy⟩ := k96_open hcs
      obtain ⟨y, hy⟩ : ∃ y, l0.getD i z96 = y := ⟨_, rfl⟩
      rw [hy] at hcc hly hCy
      have hcell : ∀ j v, (#[.string y.f0, .slice Ay y.f1.length cy, .bool y.f2] : Array Value).toList[j]? = some v → wr.cell? ((ad.add (i * 3)).add j) = some v := fun j v hv => by rw [add_add]; exact (HB.out.cell (World.block_lt_of_cell? w _ (hcc j v hv))).trans (hcc j v hv)
      have HCC := Lib.hid hcell
      have hlj : l0[i]? = some y := by rw [← hy, List.getD_eq_getElem?_getD, List.getElem?_eq_getElem (by rw [HN.out]; exact hlt)]; rfl
      have htk := HTK.out i y hlj
      have hl1 := HLEN.out (i + 1)
      rw [htk] at hl1
      have HTK1 := Lib.hid htk
      have hmy := Kd.C_max hCy
      have HCY := Lib.hid hCy
      have KN := Lib.hid (fun W => count_calls y.f1.length (by omega) W)
      have hcl := countL_len y.f1.length
      have hcf := fun hb => chgB_f (x := y) hb
      have hce := fun hb => chgB_eqf (x := y) hb
      obtain ⟨CL, hCL⟩ : ∃ CL, countL y.f1.length = CL := ⟨_, rfl⟩
      rw [hCL] at KN hcl hcf hce
      obtain ⟨Y, hY⟩ : ∃ Y, countL n ++ (l0.take i).flatMap chgB = Y := ⟨_, rfl⟩
      rw [hY] at HO HTK1 hl1
      have HL1 := Lib.hid (show Y.length + (chgB y).length ≤ 140737488355328 by rw [List.length_append] at hl1; exact hl1)
      have HL := Lib.hid (show Y.length + (1 + y.f0.size) ≤ 140737488355328 by have := HL1.out; have := chgB_ge y; omega)
      clear hy hcs hcc hcell hlj htk hl1 hCy hY hCL
      go_upto_region 7 with (first
        | ((with_reducible refine gate_load 96 rfl ?_); refine wpList_load_any rfl 96 _ rfl _ rfl _ _ HCC.out Try.underlying96 rfl (by kernel_rfl) ?_)
        | ((with_reducible refine gate_storeT 96 rfl ?_); refine wpList_store_row rfl 96 _ _ rfl _ _ rfl rfl 96 _ (heap_alloc_new _ _) (by kernel_rfl) rfl (by simp [Value.oneCell']) ?_; rw [setRow_alloc]))
      obtain ⟨gx, hgx⟩ : ∃ gx, wr.heap.size = gx := ⟨_, rfl⟩
      have HGa := Lib.hid (blk_call (below_drew (Below.refl _ _)) (heap_alloc_new wr (.cells #[.string y.f0, .slice Ay y.f1.length cy, .bool y.f2] 96 (0, 0))))
      have HBa := Lib.hid (below_step (HB.out.alloc HB.out.size (.cells #[.string y.f0, .slice Ay y.f1.length cy, .bool y.f2] 96 (0, 0))) (below_drew (Below.refl _ _)))
      have HOa := Lib.hid (Kd.R_drew (Kd.R_alloc HO.out (.cells #[.string y.f0, .slice Ay y.f1.length cy, .bool y.f2] 96 (0, 0))))
      rw [hgx] at HGa ⊢
      generalize (wr.alloc (.cells #[.string y.f0, .slice Ay y.f1.length cy, .bool y.f2] 96 (0, 0))) = wx at HGa HBa HOa ⊢
      obtain ⟨q, hq⟩ : ∃ q, IntKind.u8.wrap (y.f0.size : Int) = q := ⟨_, rfl⟩
      have HQ := Lib.hid hq
      refine start_ (n := 11) (S := fun w' => w'.cell? ⟨gx, 0, none⟩ = some (.string y.f0)) (ds := []) #[false, false, false, false, false, false, false, false, false, false, false] (by kernel_rfl) rfl rfl (blk_cellk HGa.out 0 rfl) (fun hHeld => ?_)
      generalize wx.drew = Wa at HGa HBa HOa hHeld ⊢
      refine pure_ (i := 0) (N := some 19) (v := ?_) (a' := ?_) #[true, false, false, false, false, false, false, false, false, false, false] rfl rfl (by kernel_rfl) (fun _ _ _ h => h) (Or.inl ⟨by rfl, ?_⟩) ?_ ?_
      rotate_left
      · intro w'
        go_simp
        with_reducible rfl
      rotate_left
      · simp only [Act.put, List.setIfInBounds_toArray, List.set_cons_zero, List.set_cons_succ, i64_w, i32_w]
        rfl
      refine pure_ (i := 1) (N := some 20) (v := ?_) (a' := ?_) #[true, true, false, false, false, false, false, false, false, false, false] rfl rfl (by kernel_rfl) (fun _ _ _ h => h) (Or.inl ⟨by rfl, ?_⟩) ?_ ?_
      rotate_left
      · intro w'
        go_simp
        with_reducible rfl
      rotate_left
      · simp only [Act.put, List.setIfInBounds_toArray, List.set_cons_zero, List.set_cons_succ, i64_w, i32_w]
        rfl
      refine pure_ (i := 7) (N := some 26) (v := ?_) (a' := ?_) #[true, true, false, false, false, false, false, true, false, false, false] rfl rfl (by kernel_rfl) (fun _ _ _ h => h) (Or.inl ⟨by rfl, ?_⟩) ?_ ?_
      rotate_left
      · intro w'
        go_simp
        with_reducible rfl
      rotate_left
      · simp only [Act.put, List.setIfInBounds_toArray, List.set_cons_zero, List.set_cons_succ, i64_w, i32_w]
        rfl
      refine take_ (i := 2) (N := some 21) (v := ?_) (a' := ?_) #[true, true, true, false, false, false, false, true, false, false, false] rfl rfl (by kernel_rfl) (fun _ _ _ h => h) (Or.inl ⟨by rfl, ?_⟩) hHeld ?_ ?_
      rotate_left
      · rintro w' s0
        go_simp
        with_reducible rfl
      rotate_left
      · simp only [Act.put, List.setIfInBounds_toArray, List.set_cons_zero, List.set_cons_succ, i64_w, i32_w]
        rfl
      refine take_ (i := 8) (N := some 27) (v := ?_) (a' := ?_) #[true, true, true, false, false, false, false, true, true, false, false] rfl rfl (by kernel_rfl) (fun _ _ _ h => h) (Or.inl ⟨by rfl, ?_⟩) hHeld ?_ ?_
      rotate_left
      · rintro w' s0
        go_simp
        with_reducible rfl
      rotate_left
      · simp only [Act.put, List.setIfInBounds_toArray, List.set_cons_zero, List.set_cons_succ, i64_w, i32_w]
        rfl
      refine pure_ (i := 3) (N := some 22) (v := ?_) (a' := ?_) #[true, true, true, true, false, false, false, true, true, false, false] rfl rfl (by kernel_rfl) (fun _ _ _ h => h) (Or.inl ⟨by rfl, ?_⟩) ?_ ?_
      rotate_left
      · intro w'
        go_simp
        with_reducible rfl
      rotate_left
      · simp only [Act.put, List.setIfInBounds_toArray, List.set_cons_zero, List.set_cons_succ, i64_w, i32_w]
        rfl
      refine pure_ (i := 4) (N := some 23) (v := ?_) (a' := ?_) #[true, true, true, true, true, false, false, true, true, false, false] rfl rfl (by kernel_rfl) (fun _ _ _ h => h) (Or.inl ⟨by rfl, ?_⟩) ?_ ?_
      rotate_left
      · intro w'
        go_simp
        with_reducible rfl
      rotate_left
      · simp only [Act.put, List.setIfInBounds_toArray, List.set_cons_zero, List.set_cons_succ, i64_w, i32_w]
        rfl
      refine one_ (i := 5) (N := some 24) #[true, true, true, true, true, true, false, true, true, false, false] rfl rfl (by kernel_rfl) (by decide) (fun K hK => ?_)
      refine value_ (w1 := ?_) (v := ?_) (by rfl) rfl ?_ ?_
      rotate_left 2
      · go_simp
        constructor
        · rfl
        · rfl
      have HGb := Lib.hid ((Below.heap_alloc Wa (.cells #[.int .u8 q] 5 (0, 0)) gx (blk_lt HGa.out)).trans HGa.out)
      refine hK.out _ _ ((blk_cellk HGb.out 0 rfl)) (fun hHeld => ?_)
      clear hK K
      refine norm_ (a' := ?_) ?_ ?_
      rotate_left
      · show Act.put _ (some 24) _ = _
        simp only [Act.put, List.setIfInBounds_toArray, List.set_cons_zero, List.set_cons_succ, i64_w, i32_w]
        rfl
      refine one_ (i := 6) (N := some 25) #[true, true, true, true, true, true, true, true, true, false, false] rfl rfl (by kernel_rfl) (by decide) (fun K hK => ?_)
      refine Kd.R_append_step (Kd.int .u8) (w0 := w) w.heap.size (by rfl) (.tmp 19) (.tmp 24) 76 5 (.int .u8 0) 1 rfl Try.underlying76 info5 rfl (by decide) (by decide) u4 Y (q) [.int .u8 (q)] (fun _ => True) (fun _ => False) rfl rfl rfl (fun _ hk => hk.elim) (fun _ _ => trivial) HOa.out HBa.out HBa.out.size ?aL ?_
      (case aL => have := HL.out; simp only [List.length_append, List.length_singleton, List.length_nil, Nat.mul_one] at this ⊢; omega)
      intro vc Wc ho hb hg hat
      have HOc := Lib.hid ho
      have HBc := Lib.hid hb
      have HGc := Lib.hid ((hg.block gx (blk_lt HGa.out) (Kd.R_ne HOa.out HGa.out (by decide))).trans HGa.out)
      clear ho hb hg hat
      refine hK.out _ _ ((blk_cellk HGc.out 0 rfl)) (fun hHeld => ?_)
      clear hK K
      refine norm_ (a' := ?_) ?_ ?_
      rotate_left
      · show Act.put _ (some 25) _ = _
        simp only [Act.put, List.setIfInBounds_toArray, List.set_cons_zero, List.set_cons_succ, i64_w, i32_w]
        rfl
      refine one_ (i := 9) (N := some 28) #[true, true, true, true, true, true, true, true, true, true, false] rfl rfl (by kernel_rfl) (by decide) (fun K hK => ?_)
      refine R_append_str_step (w0 := w) w.heap.size (by rfl) (.tmp 25) (.tmp 27) 76 9 5 rfl Try.underlying76 Try.underlying9 info5 vc (Y ++ [q]) y.f0 rfl rfl HOc.out HBc.out HBc.out.size ?aL ?_
      (case aL => have := HL.out; simp only [List.length_append, List.length_singleton, Nat.mul_one] at this ⊢; omega)
      intro vd Wd ho hb hg
      have HOd := Lib.hid ho
      have HBd := Lib.hid hb
      have HGd := Lib.hid ((hg.block gx (blk_lt HGc.out) (Kd.R_ne HOc.out HGc.out (by decide))).trans HGc.out)
      clear ho hb hg
      refine hK.out _ _ ((blk_cellk HGd.out 0 rfl)) (fun hHeld => ?_)
      clear hK K
      refine norm_ (a' := ?_) ?_ ?_
      rotate_left
      · show Act.put _ (some 28) _ = _
        simp only [Act.put, List.setIfInBounds_toArray, List.set_cons_zero, List.set_cons_succ, i64_w, i32_w]
        rfl
      refine pure_ (i := 10) (N := some 4) (v := ?_) (a' := ?_) #[true, true, true, true, true, true, true, true, true, true, true] rfl rfl (by kernel_rfl) (fun _ _ _ h => h) (Or.inl ⟨by rfl, ?_⟩) ?_ ?_
      rotate_left
      · intro w'
        go_simp
        with_reducible rfl
      rotate_left
      · simp only [Act.put, List.setIfInBounds_toArray, List.set_cons_zero, List.set_cons_succ, i64_w, i32_w]
        rfl
      refine done_ (by kernel_rfl) ?_
      clear hq
      obtain ⟨Z, hZ⟩ : ∃ Z, (Y ++ [q]) ++ bytesOf y.f0 = Z := ⟨_, rfl⟩
      rw [hZ] at HOd
      have hZl : Z.length = Y.length + (1 + y.f0.size) := by rw [← hZ]; simp only [List.length_append, List.length_singleton, bytesOf_length]; omega
      have hcd : Wd.cell? ⟨gx, 2, none⟩ = some (.bool y.f2) := blk_cellk HGd.out 2 rfl
      obtain ⟨b, hb⟩ : ∃ b, y.f2 = b := ⟨_, rfl⟩
      rw [hb] at hcd
      have HL1 := HL1.out
      cases b with
      | true =>
        have HL2 := Lib.hid (show Z.length + 1 ≤ 140737488355328 by have := chgB_t hb; omega)
        have HR := Lib.hid (show Y ++ chgB y = Z ++ [1] by rw [← hZ, chgB_eqt hb, HQ.out]; simp)
        clear hZ hZl hb HL1 HLEN HTK hcf hce
        go_wp2_with (first
          | ((with_reducible refine gate_builtin (b := .append) (xs := #[.tmp 31, .tmp 32]) rfl ?_); at_builtin; refine Kd.R_append (Kd.int .u8) (w0 := w) w.heap.size rfl (.tmp 31) (.tmp 32) 76 5 (.int .u8 0) 1 rfl Try.underlying76 info5 rfl (by decide) (by decide) vd Z _ [.int .u8 _] (fun _ => True) (fun _ => False) rfl rfl rfl (fun _ hk => hk.elim) (fun _ _ => trivial) HOd.out HBd.out HBd.out.size (by have := HL2.out; omega) ?_; intro v1 w3 ho hb hg hat; have HO5 := Lib.hid ho; have HB5 := Lib.hid hb; clear ho hb hg hat))
        exact ⟨⟨i + 1, by omega, by go_num, Lib.hid (by rw [HTK1.out, HR.out]; exact HO5.out), HB5⟩, by simp only [intOf]; omega⟩
      | false =>
        have HL2 := Lib.hid (show Z.length + (1 + CL.length + y.f1.length) ≤ 140737488355328 by have := hcf hb; omega)
        have HR := Lib.hid (show Y ++ chgB y = ((Z ++ [0]) ++ CL) ++ y.f1 by rw [← hZ, hce hb, HQ.out]; simp)
        clear hZ hZl hb HL1 HLEN HTK hcf hce
        go_upto_region 10 with (fail)
        have HGh := Lib.hid (blk_call (below_drew (Below.refl _ _)) HGd.out)
        have HBh := Lib.hid (below_step HBd.out (below_drew (Below.refl _ _)))
        have HOh := Lib.hid (Kd.R_drew HOd.out)
        refine start_ (n := 9) (S := fun w' => w'.cell? ⟨gx, 1, none⟩ = some (.slice Ay y.f1.length cy)) (ds := []) #[false, false, false, false, false, false, false, false, false] (by kernel_rfl) rfl rfl (blk_cellk HGh.out 1 rfl) (fun hHeld => ?_)
        generalize Wd.drew = Wh at HGh HBh HOh hHeld ⊢
        refine pure_ (i := 0) (N := some 34) (v := ?_) (a' := ?_) #[true, false, false, false, false, false, false, false, false] rfl rfl (by kernel_rfl) (fun _ _ _ h => h) (Or.inl ⟨by rfl, ?_⟩) ?_ ?_
        rotate_left
        · intro w'
          go_simp
          with_reducible rfl
        rotate_left
        · simp only [Act.put, List.setIfInBounds_toArray, List.set_cons_zero, List.set_cons_succ, i64_w, i32_w]
          rfl
        refine pure_ (i := 3) (N := some 37) (v := ?_) (a' := ?_) #[true, false, false, true, false, false, false, false, false] rfl rfl (by kernel_rfl) (fun _ _ _ h => h) (Or.inl ⟨by rfl, ?_⟩) ?_ ?_
        rotate_left
        · intro w'
          go_simp
          with_reducible rfl
        rotate_left
        · simp only [Act.put, List.setIfInBounds_toArray, List.set_cons_zero, List.set_cons_succ, i64_w, i32_w]
          rfl
        refine take_ (i := 4) (N := some 38) (v := ?_) (a' := ?_) #[true, false, false, true, true, false, false, false, false] rfl rfl (by kernel_rfl) (fun _ _ _ h => h) (Or.inl ⟨by rfl, ?_⟩) hHeld ?_ ?_
        rotate_left
        · rintro w' s0
          go_simp
          with_reducible rfl
        rotate_left
        · simp only [Act.put, List.setIfInBounds_toArray, List.set_cons_zero, List.set_cons_succ, i64_w, i32_w]
          rfl
        refine pure_ (i := 5) (N := some 39) (v := ?_) (a' := ?_) #[true, false, false, true, true, true, false, false, false] rfl rfl (by kernel_rfl) (fun _ _ _ h => h) (Or.inl ⟨by rfl, ?_⟩) ?_ ?_
        rotate_left
        · intro w'
          go_simp
          with_reducible rfl
        rotate_left
        · simp only [Act.put, List.setIfInBounds_toArray, List.set_cons_zero, List.set_cons_succ, i64_w, i32_w]
          rfl
        refine one_ (i := 1) (N := some 35) #[true, true, false, true, true, true, false, false, false] rfl rfl (by kernel_rfl) (by decide) (fun K hK => ?_)
        refine value_ (w1 := ?_) (v := ?_) (by rfl) rfl ?_ ?_
        rotate_left 2
        · go_simp
          constructor
          · rfl
          · rfl
        have HGi := Lib.hid ((Below.heap_alloc Wh (.cells #[.int .u8 0] 5 (0, 0)) gx (blk_lt HGh.out)).trans HGh.out)
        refine hK.out _ _ ((blk_cellk HGi.out 1 rfl)) (fun hHeld => ?_)
        clear hK K
        refine norm_ (a' := ?_) ?_ ?_
        rotate_left
        · show Act.put _ (some 35) _ = _
          simp only [Act.put, List.setIfInBounds_toArray, List.set_cons_zero, List.set_cons_succ, i64_w, i32_w]
          rfl
        refine one_ (i := 2) (N := some 36) #[true, true, true, true, true, true, false, false, false] rfl rfl (by kernel_rfl) (by decide) (fun K hK => ?_)
        refine Kd.R_append_step (Kd.int .u8) (w0 := w) w.heap.size (by rfl) (.tmp 34) (.tmp 35) 76 5 (.int .u8 0) 1 rfl Try.underlying76 info5 rfl (by decide) (by decide) vd Z (0) [.int .u8 (0)] (fun _ => True) (fun _ => False) rfl rfl rfl (fun _ hk => hk.elim) (fun _ _ => trivial) HOh.out HBh.out HBh.out.size ?aL ?_
        (case aL => have := HL2.out; simp only [List.length_append, List.length_singleton, List.length_nil, Nat.mul_one] at this ⊢; omega)
        intro vj Wj ho hb hg hat
        have HOj := Lib.hid ho
        have HBj := Lib.hid hb
        have HGj := Lib.hid ((hg.block gx (blk_lt HGh.out) (Kd.R_ne HOh.out HGh.out (by decide))).trans HGh.out)
        clear ho hb hg hat
        refine hK.out _ _ ((blk_cellk HGj.out 1 rfl)) (fun hHeld => ?_)
        clear hK K
        refine norm_ (a' := ?_) ?_ ?_
        rotate_left
        · show Act.put _ (some 36) _ = _
          simp only [Act.put, List.setIfInBounds_toArray, List.set_cons_zero, List.set_cons_succ, i64_w, i32_w]
          rfl
        refine one_ (i := 6) (N := some 40) #[true, true, true, true, true, true, true, false, false] rfl rfl (by kernel_rfl) (by decide) (fun K hK => ?_)
        refine goes_ Try.func91 (by kernel_rfl) rfl #[.int .i64 (y.f1.length : Int)] (by rfl) rfl rfl (by (try simp only [List.map_toArray, List.map_cons, List.map_nil]); first | done | rfl) ?_
        refine (KN.out _).mono ?_
        rintro e Wk ⟨vk, rfl, hok, hbk⟩
        have HVk := Lib.hid (Kd.R_reads hok)
        have HOk := Lib.hid (Kd.R_below HOj.out hbk)
        have HBk := Lib.hid (below_step HBj.out hbk)
        have HGk := Lib.hid (blk_call hbk HGj.out)
        clear hok hbk
        obtain ⟨Ak, ck, hvk, _, hCk⟩ := HVk.out
        subst hvk
        have HCk := Lib.hid hCk
        clear hCk
        refine ⟨_, rfl, ?_⟩
        refine hK.out _ _ ((blk_cellk HGk.out 1 rfl)) (fun hHeld => ?_)
        clear hK K
        refine norm_ (a' := ?_) ?_ ?_
        rotate_left
        · show Act.put _ (some 40) _ = _
          simp only [Act.put, List.setIfInBounds_toArray, List.set_cons_zero, List.set_cons_succ, i64_w, i32_w]
          rfl
        refine one_ (i := 7) (N := some 41) #[true, true, true, true, true, true, true, true, false] rfl rfl (by kernel_rfl) (by decide) (fun K hK => ?_)
        refine Kd.R_append_rows_step (Kd.int .u8) (w0 := w) w.heap.size (by rfl) (.tmp 36) (.tmp 40) 76 5 (.int .u8 0) 1 rfl Try.underlying76 info5 rfl (by decide) (by decide) vj (Z ++ [0]) CL Ak _ ck (fun _ => True) (fun _ => False) rfl rfl HOk.out HCk.out (fun _ _ h => h) (fun _ hk => hk.elim) (fun _ _ => trivial) HBk.out HBk.out.size ?aL ?_
        (case aL => have := HL2.out; have := hcl; simp only [List.length_append, List.length_singleton, Nat.mul_one] at this ⊢; omega)
        intro vm Wm ho hb hg hat
        have HOm := Lib.hid ho
        have HBm := Lib.hid hb
        have HGm := Lib.hid ((hg.block gx (blk_lt HGk.out) (Kd.R_ne HOk.out HGk.out (by decide))).trans HGk.out)
        clear ho hb hg hat
        refine hK.out _ _ ((blk_cellk HGm.out 1 rfl)) (fun hHeld => ?_)
        clear hK K
        refine norm_ (a' := ?_) ?_ ?_
        rotate_left
        · show Act.put _ (some 41) _ = _
          simp only [Act.put, List.setIfInBounds_toArray, List.set_cons_zero, List.set_cons_succ, i64_w, i32_w]
          rfl
        refine pure_ (i := 8) (N := some 4) (v := ?_) (a' := ?_) #[true, true, true, true, true, true, true, true, true] rfl rfl (by kernel_rfl) (fun _ _ _ h => h) (Or.inl ⟨by rfl, ?_⟩) ?_ ?_
        rotate_left
        · intro w'
          go_simp
          with_reducible rfl
        rotate_left
        · simp only [Act.put, List.setIfInBounds_toArray, List.set_cons_zero, List.set_cons_succ, i64_w, i32_w]
          rfl
        refine done_ (by kernel_rfl) ?_
        have hcm : Wm.cell? ⟨gx, 1, none⟩ = some (.slice Ay y.f1.length cy) := blk_cellk HGm.out 1 rfl
        have HCm := Lib.hid (Kd.C_below HCY.out HBm.out)
        obtain ⟨U, hU⟩ : ∃ U, (Z ++ [0]) ++ CL = U := ⟨_, rfl⟩
        have hUl : U.length = Z.length + (1 + CL.length) := by rw [← hU]; simp only [List.length_append, List.length_singleton]; omega
        have HL3 := Lib.hid (show (U.length + y.f1.length) * 1 ≤ 140737488355328 by have := HL2.out; omega)
        rw [hU] at HOm HR
        clear hU hUl
        go_wp2_with (first
          | ((with_reducible refine gate_builtin (b := .append) (xs := #[.tmp 42, .tmp 44]) rfl ?_); at_builtin; refine Kd.R_append_rows (Kd.int .u8) (w0 := w) w.heap.size rfl (.tmp 42) (.tmp 44) 76 5 (.int .u8 0) 1 rfl Try.underlying76 info5 rfl (by decide) (by omega) vm U y.f1 _ _ _ (fun _ => True) (fun _ => False) rfl rfl HOm.out HCm.out (fun _ _ h => h) (fun _ h => h.elim) (fun _ _ => trivial) HBm.out HBm.out.size HL3.out ?_; intro v1 w3 ho hb hg hat; have HO5 := Lib.hid ho; have HB5 := Lib.hid hb; clear ho hb hg hat))
        exact ⟨⟨i + 1, by omega, by go_num, Lib.hid (by rw [HTK1.out, HR.out]; exact HO5.out), HB5⟩, by simp only [intOf]; omega⟩
    · have : i = n := by omega
      subst this
      have h1 := HO.out
      rw [← HP.out] at h1
      have HO1 := Lib.hid h1
      clear h1
      go_wp2
      go_ret2
      exact ⟨_, rfl, HO1.out, HB.out⟩
end Go.Proofs.Ytaoflcmjmhfblaa.D
