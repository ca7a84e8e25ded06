/- conf.Copy. -/
import Derived.Test.YtgiokbhedblkfaaCf8
import Derived.Test.YtgiokbhedblkfaaCfSlPool
import Derived.Test.YtgiokbhedblkfaaCfSlBand
import Derived.Test.YtgiokbhedblkfaaCfSlPlan
namespace Go.Proofs.Ytgiokbhedblkfaa.C
open Go.RowKit Go.Proofs.YtgiokbhedblkfaaW.PrintWords Go.Proofs.YtgiokbhedblkfaaW.PrintLast Go.Proofs.YtgiokbhedblkfaaW.PrintMore Go.Proofs.Ytgiokbhedblkfaa.H
set_option linter.unusedVariables false
set_option linter.unusedSimpArgs false
/-- A configuration's cells, its three slices said apart. -/
def cfgC (x : S27) (v0 v18 v19 : Value) : Array Value := #[v0, .int .u8 x.f1, .int .i64 x.f2, .bool x.f3, .int .i64 x.f4, .int .i64 x.f5, .int .i64 x.f6, .int .i64 x.f7, .int .i64 x.f8, .int .i64 x.f9, .int .u64 x.f10, .int .u64 x.f11, .int .u64 x.f12, .int .u64 x.f13, .int .u64 x.f14, .int .u64 x.f15, .bool x.f16, .int .i64 x.f17, v18, v19]
def cfgV (x : S27) (v0 v18 v19 : Value) : Value := .agg (cfgC x v0 v18 v19)
theorem cfg_one (x : S27) (v0 v18 v19 : Value) (h0 : v0.oneCell' = true) (h18 : v18.oneCell' = true) (h19 : v19.oneCell' = true) : (cfgC x v0 v18 v19).all (·.oneCell') = true := by
  rw [Array.all_eq_true_iff_forall_mem]
  intro u hu
  simp only [cfgC, List.mem_toArray, List.mem_cons, List.not_mem_nil, or_false] at hu
  rcases hu with rfl | rfl | rfl | rfl | rfl | rfl | rfl | rfl | rfl | rfl | rfl | rfl | rfl | rfl | rfl | rfl | rfl | rfl | rfl | rfl <;> first | assumption | rfl
theorem R_setRow {α : Type} {d : Kd α} {e g t : Nat} {w : World} {base : Nat} {v : Value} {xs : List α} {cells cs : Array Value} (h : d.R e w base (fun _ => True) v xs) (hb : w.heap[g]? = some (.cells cells t (0, 0))) (ht : ∀ q, q ∈ e :: d.E → q ≠ t) : d.R e (w.setRow g cs) base (fun _ => True) v xs :=
  Kd.R_mono (Kd.R_step (Kd.R_types h hb ht) (fun k hk _ => setRow_other w g k cs hk.2)) (fun _ _ => trivial)
theorem slice_one {α : Type} {d : Kd α} {e : Nat} {w : World} {base : Nat} {ok : Nat → Prop} {v : Value} {xs : List α} (h : d.R e w base ok v xs) : v.oneCell' = true := by
  obtain ⟨A, c, rfl⟩ := Kd.R_slice h
  rfl
theorem heap_setCell_in {w : World} {g : Nat} {cs : Array Value} {t : TypeId} {fr : Nat × Nat} (h : w.heap[g]? = some (.cells cs t fr)) (j : Nat) (v : Value) : (w.setCell ⟨g, j, none⟩ v).heap[g]? = some (.cells (cs.setIfInBounds j v) t fr) := by
  rw [setCell_eq_setRow w g j cs t fr v h]
  exact setRow_heap w g cs _ t fr h
theorem blk_frozen {W : World} {g : Nat} {cs : Array Value} {t : TypeId} (h : W.heap[g]? = some (.cells cs t (0, 0))) (j : Nat) : W.frozen? ⟨g, j, none⟩ = false := by simp [World.frozen?, h]
set_option maxHeartbeats 8000000 in
set_option maxRecDepth 100000 in
theorem copy_calls (x : S27) (A0 A18 A19 : Option Addr) (c0 c18 c19 : Nat) (w : World) (h0 : Kd.C k37 w A0 x.f0.length x.f0) (h18 : Kd.C k39 w A18 x.f18.length x.f18) (h19 : Kd.C k41 w A19 x.f19.length x.f19)
    (l0 : x.f0.length * 40 ≤ 140737488355328) (l18 : x.f18.length * 16 ≤ 140737488355328) (l19 : x.f19.length * 24 ≤ 140737488355328) :
    Calls Try.prog 13 #[cfgV x (.slice A0 x.f0.length c0) (.slice A18 x.f18.length c18) (.slice A19 x.f19.length c19)] w fun e w' => ∃ v0 v18 v19 : Value, e = .returned (cfgV x v0 v18 v19) ∧ Kd.R k37 37 w' w.heap.size (fun _ => True) v0 x.f0 ∧ Kd.R k39 39 w' w.heap.size (fun _ => True) v18 x.f18 ∧ Kd.R k41 41 w' w.heap.size (fun _ => True) v19 x.f19 ∧ Below w.heap.size w w' := by
  obtain ⟨C0, hC0⟩ : ∃ C0, C0 = cfgC x (.slice A0 x.f0.length c0) (.slice A18 x.f18.length c18) (.slice A19 x.f19.length c19) := ⟨_, rfl⟩
  have e0 : C0[0]? = some (.slice A0 x.f0.length c0) := by rw [hC0]; rfl
  have e18 : C0[18]? = some (.slice A18 x.f18.length c18) := by rw [hC0]; rfl
  have e19 : C0[19]? = some (.slice A19 x.f19.length c19) := by rw [hC0]; rfl
  have ecs : C0.size = 20 := by rw [hC0]; rfl
  have hx : ∀ u0 u18 u19, ((C0.setIfInBounds 0 u0).setIfInBounds 18 u18).setIfInBounds 19 u19 = cfgC x u0 u18 u19 := by intro u0 u18 u19; rw [hC0]; rfl
  have hv : cfgV x (.slice A0 x.f0.length c0) (.slice A18 x.f18.length c18) (.slice A19 x.f19.length c19) = .agg C0 := by rw [hC0]; rfl
  rw [hv]
  have HX := Lib.hid hx
  have H0 := Lib.hid (fun W (hb : Below w.heap.size w W) => clonePool A0 c0 x.f0 W (Kd.C_below h0 hb) l0)
  have H18 := Lib.hid (fun W (hb : Below w.heap.size w W) => cloneBand A18 c18 x.f18 W (Kd.C_below h18 hb) l18)
  have H19 := Lib.hid (fun W (hb : Below w.heap.size w W) => clonePlan A19 c19 x.f19 W (Kd.C_below h19 hb) l19)
  have HE := Lib.hid (And.intro e0 (And.intro e18 (And.intro e19 ecs)))
  obtain ⟨n0, hn0⟩ : ∃ n, x.f0.length = n := ⟨_, rfl⟩
  obtain ⟨n18, hn18⟩ : ∃ n, x.f18.length = n := ⟨_, rfl⟩
  obtain ⟨n19, hn19⟩ : ∃ n, x.f19.length = n := ⟨_, rfl⟩
  rw [hn0] at H0 HE
  rw [hn18] at H18 HE
  rw [hn19] at H19 HE
  clear hC0 e0 e18 e19 ecs hx hv h0 h18 h19 l0 l18 l19 hn0 hn18 hn19
  go_enter Try.func13, Try.ntmps13
  go_upto_region 1 with (fail)
  · skip
    have b1 := (Below.refl w.heap.size w).alloc (Nat.le_refl _) (.cells C0 27 (0, 0))
    have b2 := b1.alloc b1.size (.cells #[.slice none 0 0, .int .u8 0, .int .i64 0, .bool false, .int .i64 0, .int .i64 0, .int .i64 0, .int .i64 0, .int .i64 0, .int .i64 0, .int .u64 0, .int .u64 0, .int .u64 0, .int .u64 0, .int .u64 0, .int .u64 0, .bool false, .int .i64 0, .slice none 0 0, .slice none 0 0] 27 (0, 0))
    have b3 := below_step b2 (below_drew (Below.refl _ _))
    have g1 := heap_alloc_new w (.cells C0 27 (0, 0))
    have g2 := heap_alloc_new (w.alloc (.cells C0 27 (0, 0))) (.cells #[.slice none 0 0, .int .u8 0, .int .i64 0, .bool false, .int .i64 0, .int .i64 0, .int .i64 0, .int .i64 0, .int .i64 0, .int .i64 0, .int .u64 0, .int .u64 0, .int .u64 0, .int .u64 0, .int .u64 0, .int .u64 0, .bool false, .int .i64 0, .slice none 0 0, .slice none 0 0] 27 (0, 0))
    rw [World.size_alloc] at g2
    have g1' := (Below.heap_alloc (w.alloc (.cells C0 27 (0, 0))) (.cells #[.slice none 0 0, .int .u8 0, .int .i64 0, .bool false, .int .i64 0, .int .i64 0, .int .i64 0, .int .i64 0, .int .i64 0, .int .i64 0, .int .u64 0, .int .u64 0, .int .u64 0, .int .u64 0, .int .u64 0, .int .u64 0, .bool false, .int .i64 0, .slice none 0 0, .slice none 0 0] 27 (0, 0)) w.heap.size (blk_lt g1)).trans g1
    have g1'' := blk_call (below_drew (Below.refl _ _)) g1'
    have g2' := blk_call (below_drew (Below.refl _ _)) g2
    have HBa := Lib.hid b3
    have HGa := Lib.hid g1''
    have HRa := Lib.hid g2'
    generalize ((w.alloc (.cells C0 27 (0, 0))).alloc (.cells #[.slice none 0 0, .int .u8 0, .int .i64 0, .bool false, .int .i64 0, .int .i64 0, .int .i64 0, .int .i64 0, .int .i64 0, .int .i64 0, .int .u64 0, .int .u64 0, .int .u64 0, .int .u64 0, .int .u64 0, .int .u64 0, .bool false, .int .i64 0, .slice none 0 0, .slice none 0 0] 27 (0, 0))) = wx at HBa HGa HRa ⊢
    clear b1 b2 b3 g1 g2 g1' g1'' g2'
    obtain ⟨gb, hgb⟩ : ∃ gb, w.heap.size = gb := ⟨_, rfl⟩
    rw [hgb] at HGa HRa ⊢
    have HGB := Lib.hid hgb
    clear hgb
    refine start_ (n := 15) (S := fun w' => w'.heap[gb]? = some (.cells C0 27 (0, 0))) (ds := [10, 12, 14]) #[false, false, false, false, false, false, false, false, false, false, false, false, false, false, false] (by kernel_rfl) rfl rfl HGa.out (fun hHeld => ?_)
    generalize wx.drew = Wa at HBa HGa HRa hHeld ⊢
    refine pure_ (i := 0) (N := some 3) (v := ?_) (a' := ?_) #[true, false, false, false, false, false, false, false, false, false, false, false, false, false, false] rfl rfl (by kernel_rfl) (fun _ _ _ h => h) (Or.inl ⟨by rfl, ?_⟩) ?_ ?_
    rotate_left
    · intro w'
      go_simp
      with_reducible rfl
    rotate_left
    · simp only [Act.put, List.setIfInBounds_toArray, List.set_cons_zero, List.set_cons_succ, i64_w, i32_w]
      rfl
    refine pure_ (i := 3) (N := some 6) (v := ?_) (a' := ?_) #[true, false, false, true, false, false, false, false, false, false, false, false, false, false, false] rfl rfl (by kernel_rfl) (fun _ _ _ h => h) (Or.inl ⟨by rfl, ?_⟩) ?_ ?_
    rotate_left
    · intro w'
      go_simp
      with_reducible rfl
    rotate_left
    · simp only [Act.put, List.setIfInBounds_toArray, List.set_cons_zero, List.set_cons_succ, i64_w, i32_w]
      rfl
    refine pure_ (i := 6) (N := some 9) (v := ?_) (a' := ?_) #[true, false, false, true, false, false, true, false, false, false, false, false, false, false, false] rfl rfl (by kernel_rfl) (fun _ _ _ h => h) (Or.inl ⟨by rfl, ?_⟩) ?_ ?_
    rotate_left
    · intro w'
      go_simp
      with_reducible rfl
    rotate_left
    · simp only [Act.put, List.setIfInBounds_toArray, List.set_cons_zero, List.set_cons_succ, i64_w, i32_w]
      rfl
    refine take_ (i := 1) (N := some 4) (v := ?_) (a' := ?_) #[true, true, false, true, false, false, true, false, false, false, false, false, false, false, false] rfl rfl (by kernel_rfl) (fun _ _ _ h => h) (Or.inl ⟨by rfl, ?_⟩) hHeld ?_ ?_
    rotate_left
    · rintro w' s0
      have hc0 := blk_cellk s0 0 HE.out.1
      go_simp
      with_reducible rfl
    rotate_left
    · simp only [Act.put, List.setIfInBounds_toArray, List.set_cons_zero, List.set_cons_succ, i64_w, i32_w]
      rfl
    refine take_ (i := 4) (N := some 7) (v := ?_) (a' := ?_) #[true, true, false, true, true, false, true, false, false, false, false, false, false, false, false] rfl rfl (by kernel_rfl) (fun _ _ _ h => h) (Or.inl ⟨by rfl, ?_⟩) hHeld ?_ ?_
    rotate_left
    · rintro w' s0
      have hc0 := blk_cellk s0 18 HE.out.2.1
      go_simp
      with_reducible rfl
    rotate_left
    · simp only [Act.put, List.setIfInBounds_toArray, List.set_cons_zero, List.set_cons_succ, i64_w, i32_w]
      rfl
    refine take_ (i := 7) (N := some 10) (v := ?_) (a' := ?_) #[true, true, false, true, true, false, true, true, false, false, false, false, false, false, false] rfl rfl (by kernel_rfl) (fun _ _ _ h => h) (Or.inl ⟨by rfl, ?_⟩) hHeld ?_ ?_
    rotate_left
    · rintro w' s0
      have hc0 := blk_cellk s0 19 HE.out.2.2.1
      go_simp
      with_reducible rfl
    rotate_left
    · simp only [Act.put, List.setIfInBounds_toArray, List.set_cons_zero, List.set_cons_succ, i64_w, i32_w]
      rfl
    refine one_ (i := 2) (N := some 5) #[true, true, true, true, true, false, true, true, false, false, false, false, false, false, false] rfl rfl (by kernel_rfl) (by decide) (fun K hK => ?_)
    refine goes_ Try.func38 (by kernel_rfl) rfl #[.slice A0 n0 c0] (by rfl) rfl rfl (by (try simp only [List.map_toArray, List.map_cons, List.map_nil]); first | done | rfl) ?_
    refine (H0.out _ HBa.out).mono ?_
    rintro e Wb ⟨u0, rfl, hr, hb⟩
    obtain ⟨P0, q0, hu⟩ := Kd.R_slice hr
    subst hu
    have HR0 := Lib.hid (Kd.R_lower hr HBa.out.size)
    have HBb := Lib.hid (below_step HBa.out hb)
    have HGb := Lib.hid (blk_call hb HGa.out)
    have HRb := Lib.hid (blk_call hb HRa.out)
    have HXb := Lib.hid hb
    clear hr hb
    refine ⟨_, rfl, ?_⟩
    refine hK.out _ _ (HGb.out) (fun hHeld => ?_)
    clear hK K
    refine norm_ (a' := ?_) ?_ ?_
    rotate_left
    · show Act.put _ (some 5) _ = _
      simp only [Act.put, List.setIfInBounds_toArray, List.set_cons_zero, List.set_cons_succ, i64_w, i32_w]
      rfl
    refine pure_ (i := 9) (N := some 12) (v := ?_) (a' := ?_) #[true, true, true, true, true, false, true, true, false, true, false, false, false, false, false] rfl rfl (by kernel_rfl) (fun _ _ _ h => h) (Or.inl ⟨by rfl, ?_⟩) ?_ ?_
    rotate_left
    · intro w'
      go_simp
      with_reducible rfl
    rotate_left
    · simp only [Act.put, List.setIfInBounds_toArray, List.set_cons_zero, List.set_cons_succ, i64_w, i32_w]
      rfl
    refine one_ (i := 5) (N := some 8) #[true, true, true, true, true, true, true, true, false, true, false, false, false, false, false] rfl rfl (by kernel_rfl) (by decide) (fun K hK => ?_)
    refine goes_ Try.func39 (by kernel_rfl) rfl #[.slice A18 n18 c18] (by rfl) rfl rfl (by (try simp only [List.map_toArray, List.map_cons, List.map_nil]); first | done | rfl) ?_
    refine (H18.out _ HBb.out).mono ?_
    rintro e Wc ⟨u18, rfl, hr, hb⟩
    obtain ⟨P18, q18, hu⟩ := Kd.R_slice hr
    subst hu
    have HT := Lib.hid (Kd.R_below HR0.out hb)
    clear HR0
    have HR0 := HT
    clear HT
    have HR18 := Lib.hid (Kd.R_lower hr HBb.out.size)
    have HBc := Lib.hid (below_step HBb.out hb)
    have HGc := Lib.hid (blk_call hb HGb.out)
    have HRc := Lib.hid (blk_call hb HRb.out)
    have HXc := Lib.hid hb
    clear hr hb
    refine ⟨_, rfl, ?_⟩
    refine hK.out _ _ (HGc.out) (fun hHeld => ?_)
    clear hK K
    refine norm_ (a' := ?_) ?_ ?_
    rotate_left
    · show Act.put _ (some 8) _ = _
      simp only [Act.put, List.setIfInBounds_toArray, List.set_cons_zero, List.set_cons_succ, i64_w, i32_w]
      rfl
    refine one_ (i := 8) (N := some 11) #[true, true, true, true, true, true, true, true, true, true, false, false, false, false, false] rfl rfl (by kernel_rfl) (by decide) (fun K hK => ?_)
    refine goes_ Try.func40 (by kernel_rfl) rfl #[.slice A19 n19 c19] (by rfl) rfl rfl (by (try simp only [List.map_toArray, List.map_cons, List.map_nil]); first | done | rfl) ?_
    refine (H19.out _ HBc.out).mono ?_
    rintro e Wd ⟨u19, rfl, hr, hb⟩
    obtain ⟨P19, q19, hu⟩ := Kd.R_slice hr
    subst hu
    have HT := Lib.hid (Kd.R_below HR0.out hb)
    clear HR0
    have HR0 := HT
    clear HT
    have HT := Lib.hid (Kd.R_below HR18.out hb)
    clear HR18
    have HR18 := HT
    clear HT
    have HR19 := Lib.hid (Kd.R_lower hr HBc.out.size)
    have HBd := Lib.hid (below_step HBc.out hb)
    have HGd := Lib.hid (blk_call hb HGc.out)
    have HRd := Lib.hid (blk_call hb HRc.out)
    have HXd := Lib.hid hb
    clear hr hb
    refine ⟨_, rfl, ?_⟩
    refine hK.out _ _ (HGd.out) (fun hHeld => ?_)
    clear hK K
    refine norm_ (a' := ?_) ?_ ?_
    rotate_left
    · show Act.put _ (some 11) _ = _
      simp only [Act.put, List.setIfInBounds_toArray, List.set_cons_zero, List.set_cons_succ, i64_w, i32_w]
      rfl
    refine last_ (i := 10) (N := none) #[true, true, true, true, true, true, true, true, true, true, true, false, false, false, false] rfl rfl (by kernel_rfl) (by decide) (fun K hK => ?_)
    have hc0 := blk_cellk HGd.out 0 (v := _) (HE.out.1)
    have hf0 := blk_frozen HGd.out 0
    refine skip_ (w1 := ?_) (by rfl) rfl ?_ ?_
    rotate_left 1
    · go_simp
      rfl
    refine hK.out _ _ ?_
    clear hK K hc0 hf0
    have HGe := Lib.hid (heap_setCell_in HGd.out 0 (.slice P0 x.f0.length q0))
    have HBe := Lib.hid (HBd.out.setCell (p := ⟨gb, 0, none⟩) (by show _ ≤ gb; rw [HGB.out]; exact Nat.le_refl _) (.slice P0 x.f0.length q0))
    have HRe := Lib.hid ((heap_setCell_ne HGd.out 0 (.slice P0 x.f0.length q0) (by omega)).trans HRd.out)
    have HT := Lib.hid (Kd.R_set HR0.out HGd.out (by decide) 0 (.slice P0 x.f0.length q0))
    clear HR0
    have HR0 := HT
    clear HT
    have HT := Lib.hid (Kd.R_set HR18.out HGd.out (by decide) 0 (.slice P0 x.f0.length q0))
    clear HR18
    have HR18 := HT
    clear HT
    have HT := Lib.hid (Kd.R_set HR19.out HGd.out (by decide) 0 (.slice P0 x.f0.length q0))
    clear HR19
    have HR19 := HT
    clear HT
    generalize Wd.setCell ⟨gb, 0, none⟩ (.slice P0 x.f0.length q0) = We at HGe HBe HRe HR0 HR18 HR19 ⊢
    refine pure_ (i := 11) (N := some 13) (v := ?_) (a' := ?_) #[true, true, true, true, true, true, true, true, true, true, true, true, false, false, false] rfl rfl (by kernel_rfl) (fun _ _ _ h => h) (Or.inl ⟨by rfl, ?_⟩) ?_ ?_
    rotate_left
    · intro w'
      go_simp
      with_reducible rfl
    rotate_left
    · simp only [Act.put, List.setIfInBounds_toArray, List.set_cons_zero, List.set_cons_succ, i64_w, i32_w]
      rfl
    refine last_ (i := 12) (N := none) #[true, true, true, true, true, true, true, true, true, true, true, true, true, false, false] rfl rfl (by kernel_rfl) (by decide) (fun K hK => ?_)
    have hc0 := blk_cellk HGe.out 18 (v := _) (by rw [Array.getElem?_setIfInBounds_ne (by decide)]; exact HE.out.2.1)
    have hf0 := blk_frozen HGe.out 18
    refine skip_ (w1 := ?_) (by rfl) rfl ?_ ?_
    rotate_left 1
    · go_simp
      rfl
    refine hK.out _ _ ?_
    clear hK K hc0 hf0
    have HGf := Lib.hid (heap_setCell_in HGe.out 18 (.slice P18 x.f18.length q18))
    have HBf := Lib.hid (HBe.out.setCell (p := ⟨gb, 18, none⟩) (by show _ ≤ gb; rw [HGB.out]; exact Nat.le_refl _) (.slice P18 x.f18.length q18))
    have HRf := Lib.hid ((heap_setCell_ne HGe.out 18 (.slice P18 x.f18.length q18) (by omega)).trans HRe.out)
    have HT := Lib.hid (Kd.R_set HR0.out HGe.out (by decide) 18 (.slice P18 x.f18.length q18))
    clear HR0
    have HR0 := HT
    clear HT
    have HT := Lib.hid (Kd.R_set HR18.out HGe.out (by decide) 18 (.slice P18 x.f18.length q18))
    clear HR18
    have HR18 := HT
    clear HT
    have HT := Lib.hid (Kd.R_set HR19.out HGe.out (by decide) 18 (.slice P18 x.f18.length q18))
    clear HR19
    have HR19 := HT
    clear HT
    generalize We.setCell ⟨gb, 18, none⟩ (.slice P18 x.f18.length q18) = Wf at HGf HBf HRf HR0 HR18 HR19 ⊢
    refine pure_ (i := 13) (N := some 14) (v := ?_) (a' := ?_) #[true, true, true, true, true, true, true, true, true, true, true, true, true, true, false] rfl rfl (by kernel_rfl) (fun _ _ _ h => h) (Or.inl ⟨by rfl, ?_⟩) ?_ ?_
    rotate_left
    · intro w'
      go_simp
      with_reducible rfl
    rotate_left
    · simp only [Act.put, List.setIfInBounds_toArray, List.set_cons_zero, List.set_cons_succ, i64_w, i32_w]
      rfl
    refine last_ (i := 14) (N := none) #[true, true, true, true, true, true, true, true, true, true, true, true, true, true, true] rfl rfl (by kernel_rfl) (by decide) (fun K hK => ?_)
    have hc0 := blk_cellk HGf.out 19 (v := _) (by rw [Array.getElem?_setIfInBounds_ne (by decide), Array.getElem?_setIfInBounds_ne (by decide)]; exact HE.out.2.2.1)
    have hf0 := blk_frozen HGf.out 19
    refine skip_ (w1 := ?_) (by rfl) rfl ?_ ?_
    rotate_left 1
    · go_simp
      rfl
    refine hK.out _ _ ?_
    clear hK K hc0 hf0
    have HGg := Lib.hid (heap_setCell_in HGf.out 19 (.slice P19 x.f19.length q19))
    have HBg := Lib.hid (HBf.out.setCell (p := ⟨gb, 19, none⟩) (by show _ ≤ gb; rw [HGB.out]; exact Nat.le_refl _) (.slice P19 x.f19.length q19))
    have HRg := Lib.hid ((heap_setCell_ne HGf.out 19 (.slice P19 x.f19.length q19) (by omega)).trans HRf.out)
    have HT := Lib.hid (Kd.R_set HR0.out HGf.out (by decide) 19 (.slice P19 x.f19.length q19))
    clear HR0
    have HR0 := HT
    clear HT
    have HT := Lib.hid (Kd.R_set HR18.out HGf.out (by decide) 19 (.slice P19 x.f19.length q19))
    clear HR18
    have HR18 := HT
    clear HT
    have HT := Lib.hid (Kd.R_set HR19.out HGf.out (by decide) 19 (.slice P19 x.f19.length q19))
    clear HR19
    have HR19 := HT
    clear HT
    generalize Wf.setCell ⟨gb, 19, none⟩ (.slice P19 x.f19.length q19) = Wg at HGg HBg HRg HR0 HR18 HR19 ⊢
    refine done_ (by kernel_rfl) ?_
    rw [HX.out] at HGg
    clear hHeld
    go_wp2_with (first
      | ((with_reducible refine gate_load 27 rfl ?_); refine wpList_load_row rfl 27 _ rfl _ rfl 27 _ _ _ HGg.out Try.underlying27 rfl (by kernel_rfl) ?_)
      | ((with_reducible refine gate_storeT 27 rfl ?_); refine wpList_store_row rfl 27 _ _ rfl _ _ rfl rfl 27 _ HRg.out (by kernel_rfl) rfl (cfg_one x _ _ _ rfl rfl rfl) ?_))
    exact bodyPost_ret (res_cell rfl rfl (run_loadVar_box 27 _ 27 _ _ _ (setRow_heap _ _ _ _ _ _ HRg.out) Try.underlying27 rfl (by kernel_rfl))) rfl ⟨_, _, _, rfl, R_setRow HR0.out HRg.out (by decide), R_setRow HR18.out HRg.out (by decide), R_setRow HR19.out HRg.out (by decide), below_setRow HBg.out (by rw [HGB.out]; omega) _⟩
end Go.Proofs.Ytgiokbhedblkfaa.C
