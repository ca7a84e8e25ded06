/- great; the document's May of instances; extra.Ends where nothing is open. -/
import Derived.Test.YtnlcpgeapgnkgaaExtra4
namespace Go.Proofs.Ytnlcpgeapgnkgaa.H
open Go.RowKit Go.Proofs.YtnlcpgeapgnkgaaW.PrintWords Go.Proofs.YtnlcpgeapgnkgaaW.PrintLast Go.Proofs.YtnlcpgeapgnkgaaW.PrintMore
set_option linter.unusedVariables false
set_option linter.unusedSimpArgs false
set_option maxRecDepth 100000 in
theorem great_calls {cs : Array Value} {s : StV} (h : StF cs s) (w : World) : Calls Try.prog 9 #[.agg cs] w fun e w' => e = .returned (.bool (decide (300 < s.ilen) || decide (300 < s.olen))) ∧ Grw w w' := by
  have h1 := h.insts
  have h2 := h.opens
  clear h
  by_cases q : 300 < s.ilen
  · rw [decide_eq_true q]
    have q1 : (300 : Int) < (s.ilen : Int) := by omega
    go_enter Try.func9, Try.ntmps9
    go_wp2_with (fail)
    all_goals first | (exfalso; omega) | (go_ret; exact ⟨ret_b (by simp [*]), (Grw.refl _).alloc _⟩)
  · rw [decide_eq_false q]
    have q1 : ¬ (300 : Int) < (s.ilen : Int) := by omega
    go_enter Try.func9, Try.ntmps9
    go_wp2_with (fail)
    all_goals first | (exfalso; omega) | (go_ret; exact ⟨ret_b (by simp [*] <;> omega), (Grw.refl _).alloc _⟩)
def stays (i : InV) : Bool := serves i || comes i || i.state == 7 || i.state == 8
def EndsP (s : StV) (L : List InV) : Prop := ∀ i, i < L.length → stays (L.getD i noInst) = true → (L.getD i noInst).version = s.version
def retB (e : Ending) (b : Bool) : Prop := e = .returned (.bool b)
set_option maxRecDepth 100000 in
theorem ends_no {cs : Array Value} {s : StV} (h : StF cs s) (L : List InV) (w : World) (hL : kInst.C w s.ia s.ilen L) (hM : ¬ MaySt s L) :
    Calls Try.prog 12 #[.agg cs] w fun e w' => e = .returned (.bool false) ∧ Below w.heap.size w w' := by
  have hz := h.size
  have HB0 := Lib.hid (Boxd.new w 36 cs)
  have HW0 := Lib.hid ((Below.refl w.heap.size w).alloc (Nat.le_refl _) (.cells cs 36))
  have HL := Lib.hid hL
  have HZ := Lib.hid hz
  have HM := Lib.hid hM
  have mixed : Try.prog.follows .mixedOrders = true := by kernel_rfl
  clear hz hL hM
  go_enter Try.func12, Try.ntmps12
  go_wp2_with (first
    | ((with_reducible refine gate_load 36 rfl ?_); refine wpList_load_row rfl 36 _ rfl _ rfl 36 _ _ _ HB0.out Try.underlying36 rfl (by rw [HZ.out]; kernel_rfl) ?_)
    | (go_at_call 30; refine (may_calls h L _ (Kd.C_below HL.out HW0.out)).mono ?_; rintro e w1 ⟨⟨b, rfl, hb⟩, hw1⟩; obtain rfl : b = false := (by cases b with | false => rfl | true => exact absurd (hb.1 rfl) HM.out); have HB1 := Lib.hid (HB0.out.below hw1); have HW1 := Lib.hid (below_step HW0.out hw1); clear hw1 hb))
  all_goals (go_ret; exact ⟨rfl, HW1.out⟩)
set_option maxHeartbeats 4000000 in
set_option maxRecDepth 100000 in
theorem ends_yes {cs : Array Value} {s : StV} (h : StF cs s) (L : List InV) (w : World) (hL : kInst.C w s.ia s.ilen L) (hM : MaySt s L) (ho : s.olen = 0) :
    Calls Try.prog 12 #[.agg cs] w fun e w' => RetB e (EndsP s L) ∧ Below w.heap.size w w' := by
  have v4 := h.insts
  have v5 := h.opens
  have v6 := h.version
  rw [ho] at v5
  have hl := hL.1
  have hm := Kd.C_max hL
  have hz := h.size
  have HB0 := Lib.hid (Boxd.new w 36 cs)
  have HW0 := Lib.hid ((Below.refl w.heap.size w).alloc (Nat.le_refl _) (.cells cs 36))
  have HL := Lib.hid hL
  have HZ := Lib.hid hz
  have HM := Lib.hid hM
  have mixed : Try.prog.follows .mixedOrders = true := by kernel_rfl
  clear hz hL hM
  obtain ⟨A, hA⟩ : ∃ A, s.ia = A := ⟨_, rfl⟩
  obtain ⟨n, hn⟩ : ∃ n, s.ilen = n := ⟨_, rfl⟩
  obtain ⟨c, hc⟩ : ∃ c, s.ic = c := ⟨_, rfl⟩
  have HA := Lib.hid (And.intro hA hn)
  rw [hA, hn, hc] at v4
  rw [hn] at hl hm
  have HN := Lib.hid hl
  have V4 := Lib.hid v4
  have V5 := Lib.hid v5
  have V6 := Lib.hid v6
  clear hA hn hc hl v4 v5 v6 ho
  go_enter Try.func12, Try.ntmps12
  go_wp2_with (first
    | ((with_reducible refine gate_load 36 rfl ?_); refine wpList_load_row rfl 36 _ rfl _ rfl 36 _ _ _ HB0.out Try.underlying36 rfl (by rw [HZ.out]; kernel_rfl) ?_)
    | (go_at_call 30; refine (may_calls h L _ (Kd.C_below HL.out HW0.out)).mono ?_; rintro e w1 ⟨⟨b, rfl, hb⟩, hw1⟩; obtain rfl : b = true := hb.2 HM.out; have HB1 := Lib.hid (HB0.out.below hw1); have HW1 := Lib.hid (below_step HW0.out hw1); clear hw1 hb; have c4 := HB1.out.cell V4.out))
  obtain ⟨g, hg⟩ : ∃ g, g = w.heap.size := ⟨_, rfl⟩
  rw [← hg] at HB1 ⊢
  have HG := Lib.hid hg
  clear hg HB0
  have HLn : Hid (kInst.C w A n L) := Lib.hid (by have := HL.out; rw [HA.out.1, HA.out.2] at this; exact this)
  go_loopw [14] (fun u14 wr => ∃ (i : Nat), i ≤ n ∧ u14 = .int .i64 i ∧ Hid (Below w1.heap.size w1 wr) ∧ Hid (∀ j, j < i → stays (L.getD j noInst) = true → (L.getD j noInst).version = s.version)) (fun u14 _ => n - (intOf u14).toNat)
  case atStart => exact ⟨0, by omega, rfl, Lib.hid (Below.refl _ _), Lib.hid (fun j h => absurd h (by omega))⟩
  case round =>
    obtain ⟨i, hi, rfl, HB, HD⟩ := hrel
    by_cases hlt : i < n
    · obtain ⟨ad, ea, hc⟩ := inst_at (Kd.C_below (Kd.C_below HLn.out HW1.out) HB.out) i hlt
      subst ea
      obtain ⟨x, hx⟩ : ∃ x, L.getD i noInst = x := ⟨_, rfl⟩
      rw [hx] at hc
      have K1 := fun W => serves_calls x W
      have K2 := fun W => comes_calls x W
      obtain ⟨r1, hr1⟩ : ∃ r, serves x = r := ⟨_, rfl⟩
      obtain ⟨r2, hr2⟩ : ∃ r, comes x = r := ⟨_, rfl⟩
      obtain ⟨sx, hsx⟩ : ∃ r, stays x = r := ⟨_, rfl⟩
      have hs : sx = (r1 || r2 || x.state == 7 || x.state == 8) := by rw [← hsx, ← hr1, ← hr2]; rfl
      rw [hr1] at K1
      rw [hr2] at K2
      have HX := Lib.hid (And.intro hx hsx)
      clear hx hr1 hr2 hsx
      obtain ⟨i0, i1, i2, i3, i4, i5, i6, i7, i8, i9, i10, i11⟩ := x
      have hc : ∀ j v, ([.int .u64 i0, .int .u64 i1, .int .i64 i2, .int .i64 i3, .bool i4, .int .u8 i5, .int .u64 i6, .bool i7, .int .u64 i8, .bool i9, .bool i10, .int .u32 i11] : List Value)[j]? = some v → wr.cell? ((ad.add (i * 12)).add j) = some v := hc
      simp only [InV.val, InV.cells] at K1 K2
      have hs : sx = (r1 || r2 || i5 == 7 || i5 == 8) := hs
      have HSX := Lib.hid hs
      have HCC := Lib.hid hc
      have K1 := Lib.hid K1
      have K2 := Lib.hid K2
      have HB2 := Lib.hid (Boxd.new wr 41 #[.int .u64 i0, .int .u64 i1, .int .i64 i2, .int .i64 i3, .bool i4, .int .u8 i5, .int .u64 i6, .bool i7, .int .u64 i8, .bool i9, .bool i10, .int .u32 i11])
      have hW1 := HB.out.alloc HB.out.size (.cells #[.int .u64 i0, .int .u64 i1, .int .i64 i2, .int .i64 i3, .bool i4, .int .u8 i5, .int .u64 i6, .bool i7, .int .u64 i8, .bool i9, .bool i10, .int .u32 i11] 41)
      have HX1 := Lib.hid (HB1.out.below hW1)
      have HY1 := Lib.hid hW1
      clear hc hs hW1
      obtain ⟨vb, hvb⟩ : ∃ b, (i11 != s.version) = b := ⟨_, rfl⟩
      have HVB := Lib.hid hvb
      cases vb
      all_goals cases r1
      all_goals cases r2
      all_goals
        go_wp2_with (first
          | ((with_reducible refine gate_load 41 rfl ?_); refine wpList_load_any rfl 41 _ rfl _ rfl _ _ HCC.out Try.underlying41 rfl (by kernel_rfl) ?_)
          | ((with_reducible refine gate_storeT 41 rfl ?_); refine wpList_store_row rfl 41 _ _ rfl _ _ rfl rfl 41 _ (heap_alloc_new _ _) (by kernel_rfl) rfl (by simp [Value.oneCell']) ?_; rw [setRow_alloc])
          | ((with_reducible refine gate_load 41 rfl ?_); refine wpList_load_row rfl 41 _ rfl _ rfl 41 _ _ _ HB2.out Try.underlying41 rfl (by kernel_rfl) ?_)
          | ((with_reducible refine gate_load 41 rfl ?_); refine load_row_g (by rfl) 41 _ rfl _ rfl 41 _ _ _ HC2.out Try.underlying41 rfl (by kernel_rfl) ?_)
          | (go_at_call 31; refine (K1.out _).mono ?_; rintro e w2 ⟨rfl, hg⟩; have HC1 := Lib.hid (HX1.out.below hg.below); have HC2 := Lib.hid (HB2.out.below hg.below); have c5 := HC2.out.cell (k := 5) rfl; have c11 := HC2.out.cell (k := 11) rfl; have cv := HC1.out.cell V6.out; have HY2 := Lib.hid (below_step HY1.out hg.below); clear hg)
          | (go_at_call 32; refine (K2.out _).mono ?_; rintro e w3 ⟨rfl, hg⟩; have HE1 := Lib.hid (HC1.out.below hg.below); have HE2 := Lib.hid (HC2.out.below hg.below); have d5 := HE2.out.cell (k := 5) rfl; have d11 := HE2.out.cell (k := 11) rfl; have dv := HE1.out.cell V6.out; have HY3 := Lib.hid (below_step HY2.out hg.below); clear hg))
      all_goals first
        | (exfalso; omega)
        | (go_ret; exact ⟨.f rfl (fun hE => by
            obtain ⟨hx, hsx⟩ := HX.out
            have e1 := hE i (by rw [HN.out]; exact hlt)
            rw [hx, hsx, HSX.out] at e1
            have e2 := e1 (by simp [*])
            have e3 := HVB.out
            simp at e3
            exact e3 e2), below_step HW1.out HY3.out⟩)
        | (go_ret; exact ⟨.f rfl (fun hE => by
            obtain ⟨hx, hsx⟩ := HX.out
            have e1 := hE i (by rw [HN.out]; exact hlt)
            rw [hx, hsx, HSX.out] at e1
            have e2 := e1 (by simp [*])
            have e3 := HVB.out
            simp at e3
            exact e3 e2), below_step HW1.out HY2.out⟩)
        | exact ⟨⟨i + 1, by omega, by go_num, HY3, Lib.hid (fun j hj hst => by
            rcases Nat.lt_or_eq_of_le (Nat.le_of_lt_succ hj) with z | z
            · exact HD.out j z hst
            · subst z
              obtain ⟨hx, hsx⟩ := HX.out
              rw [hx] at hst ⊢
              rw [hsx, HSX.out] at hst
              have e3 := HVB.out
              first
                | (simp at e3; exact e3)
                | (exfalso; simp [*] at hst))⟩, by simp only [intOf]; omega⟩
        | exact ⟨⟨i + 1, by omega, by go_num, HY2, Lib.hid (fun j hj hst => by
            rcases Nat.lt_or_eq_of_le (Nat.le_of_lt_succ hj) with z | z
            · exact HD.out j z hst
            · subst z
              obtain ⟨hx, hsx⟩ := HX.out
              rw [hx] at hst ⊢
              rw [hsx, HSX.out] at hst
              have e3 := HVB.out
              first
                | (simp at e3; exact e3)
                | (exfalso; simp [*] at hst))⟩, by simp only [intOf]; omega⟩
    · have hin : i = n := by omega
      subst hin
      have e5 := (HB1.out.below HB.out).cell V5.out
      go_wp2_with (fail)
      refine wp_loop_rounds 1 ?_
      rw [rounds_succ]
      go_wp2_with (fail)
      go_ret
      exact ⟨.t rfl (fun j hj => HD.out j (by rw [HN.out] at hj; exact hj)), below_step HW1.out HB.out⟩
end Go.Proofs.Ytnlcpgeapgnkgaa.H
