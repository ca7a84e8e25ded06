/- Package extra on a state and an instance: Gives, the closures, more, may. -/
import Derived.Test.YtnlcpgeapgnkgaaState
namespace Go.Proofs.Ytnlcpgeapgnkgaa.H
open Go.RowKit Go.Proofs.YtnlcpgeapgnkgaaW.PrintWords Go.Proofs.YtnlcpgeapgnkgaaW.PrintLast Go.Proofs.YtnlcpgeapgnkgaaW.PrintMore
set_option linter.unusedVariables false
set_option linter.unusedSimpArgs false
set_option maxRecDepth 100000 in
theorem gives_calls {cs : Array Value} {s : StV} (h : StF cs s) (i : InV) (w : World) : Calls Try.prog 14 #[.agg cs, i.val] w fun e w' => e = .returned (.bool (old s i || risky s i)) ∧ Grw w w' := by
  have hz := h.size
  have K1 := fun W => old_calls h i W
  have K2 := fun W => risky_calls h i W
  clear h
  obtain ⟨o, ho⟩ : ∃ o, old s i = o := ⟨_, rfl⟩
  obtain ⟨r, hr⟩ : ∃ r, risky s i = r := ⟨_, rfl⟩
  rw [ho] at K1 ⊢
  rw [hr] at K2 ⊢
  clear ho hr
  obtain ⟨i0, i1, i2, i3, i4, i5, i6, i7, i8, i9, i10, i11⟩ := i
  simp only [InV.val, InV.cells] at K1 K2 ⊢
  have B1 := (Boxd.new w 36 cs).below ((Below.refl (w.alloc (.cells cs 36)).heap.size (w.alloc (.cells cs 36))).alloc (Nat.le_refl _) (.cells #[.int .u64 i0, .int .u64 i1, .int .i64 i2, .int .i64 i3, .bool i4, .int .u8 i5, .int .u64 i6, .bool i7, .int .u64 i8, .bool i9, .bool i10, .int .u32 i11] 41))
  have B2 := Boxd.new (w.alloc (.cells cs 36)) 41 #[.int .u64 i0, .int .u64 i1, .int .i64 i2, .int .i64 i3, .bool i4, .int .u8 i5, .int .u64 i6, .bool i7, .int .u64 i8, .bool i9, .bool i10, .int .u32 i11]
  have HW := Lib.hid (grow2 w (.cells cs 36) (.cells #[.int .u64 i0, .int .u64 i1, .int .i64 i2, .int .i64 i3, .bool i4, .int .u8 i5, .int .u64 i6, .bool i7, .int .u64 i8, .bool i9, .bool i10, .int .u32 i11] 41))
  have e1 : (w.alloc (.cells cs 36)).heap.size = w.heap.size + 1 := by simp
  rw [e1] at B2
  have HB1 := Lib.hid B1
  have HB2 := Lib.hid B2
  clear B1 B2 e1
  have K1 := Lib.hid K1
  have K2 := Lib.hid K2
  have HZ := Lib.hid hz
  clear hz
  cases o
  all_goals
    go_enter Try.func14, Try.ntmps14
    go_wp2_with (first
      | ((with_reducible refine gate_load 36 rfl ?_); refine wpList_load_row rfl 36 _ rfl _ rfl 36 _ _ _ HB1.out Try.underlying36 rfl (by rw [HZ.out]; kernel_rfl) ?_)
      | ((with_reducible refine gate_load 41 rfl ?_); refine wpList_load_row rfl 41 _ rfl _ rfl 41 _ _ _ HB2.out Try.underlying41 rfl (by kernel_rfl) ?_)
      | ((with_reducible refine gate_load 36 rfl ?_); refine load_row_g (by rfl) 36 _ rfl _ rfl 36 _ _ _ HC1.out Try.underlying36 rfl (by rw [HZ.out]; kernel_rfl) ?_)
      | ((with_reducible refine gate_load 41 rfl ?_); refine load_row_g (by rfl) 41 _ rfl _ rfl 41 _ _ _ HC2.out Try.underlying41 rfl (by kernel_rfl) ?_)
      | (go_at_call 37; refine (K1.out _).mono ?_; rintro e w1 ⟨rfl, hg⟩; have HC1 := Lib.hid (HB1.out.below hg.below); have HC2 := Lib.hid (HB2.out.below hg.below); have HW2 := Lib.hid (HW.out.trans hg); clear hg)
      | (go_at_call 35; refine (K2.out _).mono ?_; rintro e w2 ⟨rfl, hg⟩; have HW3 := Lib.hid (HW2.out.trans hg); clear hg))
  all_goals (go_ret; first | exact ⟨ret_b (by simp), HW3.out⟩ | exact ⟨ret_b (by simp), HW2.out⟩)
set_option maxRecDepth 100000 in
theorem of1_calls {cs : Array Value} {s : StV} (h : StF cs s) (i : InV) (gb : Nat) (w : World) (B : Boxd w gb 36 cs) : Calls Try.prog 34 #[i.val, .pointer (some ⟨gb, 0, none⟩)] w fun e w' => e = .returned (.bool (risky s i)) ∧ Grw w w' := by
  have hz := h.size
  have K1 := fun W => risky_calls h i W
  clear h
  obtain ⟨o, ho⟩ : ∃ o, risky s i = o := ⟨_, rfl⟩
  rw [ho] at K1 ⊢
  clear ho
  obtain ⟨i0, i1, i2, i3, i4, i5, i6, i7, i8, i9, i10, i11⟩ := i
  simp only [InV.val, InV.cells] at K1 ⊢
  have HB1 := Lib.hid (B.below ((Below.refl w.heap.size w).alloc (Nat.le_refl _) (.cells #[.int .u64 i0, .int .u64 i1, .int .i64 i2, .int .i64 i3, .bool i4, .int .u8 i5, .int .u64 i6, .bool i7, .int .u64 i8, .bool i9, .bool i10, .int .u32 i11] 41)))
  have HB2 := Lib.hid (Boxd.new w 41 #[.int .u64 i0, .int .u64 i1, .int .i64 i2, .int .i64 i3, .bool i4, .int .u8 i5, .int .u64 i6, .bool i7, .int .u64 i8, .bool i9, .bool i10, .int .u32 i11])
  have HW := Lib.hid ((Grw.refl w).alloc (.cells #[.int .u64 i0, .int .u64 i1, .int .i64 i2, .int .i64 i3, .bool i4, .int .u8 i5, .int .u64 i6, .bool i7, .int .u64 i8, .bool i9, .bool i10, .int .u32 i11] 41))
  have K1 := Lib.hid K1
  have HZ := Lib.hid hz
  clear hz B
  go_enter Try.func34, Try.ntmps34
  go_wp2_with (first
    | ((with_reducible refine gate_load 36 rfl ?_); refine wpList_load_row rfl 36 _ rfl _ rfl 36 _ _ _ HB1.out Try.underlying36 rfl (by rw [HZ.out]; kernel_rfl) ?_)
    | ((with_reducible refine gate_load 41 rfl ?_); refine wpList_load_row rfl 41 _ rfl _ rfl 41 _ _ _ HB2.out Try.underlying41 rfl (by kernel_rfl) ?_)
    | (go_at_call 35; refine (K1.out _).mono ?_; rintro e w1 ⟨rfl, hg⟩; have HW2 := Lib.hid (HW.out.trans hg); clear hg))
  all_goals (go_ret; exact ⟨rfl, HW2.out⟩)
set_option maxRecDepth 100000 in
theorem of2_calls {cs : Array Value} {s : StV} (h : StF cs s) (i : InV) (gb : Nat) (w : World) (B : Boxd w gb 36 cs) : Calls Try.prog 36 #[i.val, .pointer (some ⟨gb, 0, none⟩)] w fun e w' => e = .returned (.bool (old s i)) ∧ Grw w w' := by
  have hz := h.size
  have K1 := fun W => old_calls h i W
  clear h
  obtain ⟨o, ho⟩ : ∃ o, old s i = o := ⟨_, rfl⟩
  rw [ho] at K1 ⊢
  clear ho
  obtain ⟨i0, i1, i2, i3, i4, i5, i6, i7, i8, i9, i10, i11⟩ := i
  simp only [InV.val, InV.cells] at K1 ⊢
  have HB1 := Lib.hid (B.below ((Below.refl w.heap.size w).alloc (Nat.le_refl _) (.cells #[.int .u64 i0, .int .u64 i1, .int .i64 i2, .int .i64 i3, .bool i4, .int .u8 i5, .int .u64 i6, .bool i7, .int .u64 i8, .bool i9, .bool i10, .int .u32 i11] 41)))
  have HB2 := Lib.hid (Boxd.new w 41 #[.int .u64 i0, .int .u64 i1, .int .i64 i2, .int .i64 i3, .bool i4, .int .u8 i5, .int .u64 i6, .bool i7, .int .u64 i8, .bool i9, .bool i10, .int .u32 i11])
  have HW := Lib.hid ((Grw.refl w).alloc (.cells #[.int .u64 i0, .int .u64 i1, .int .i64 i2, .int .i64 i3, .bool i4, .int .u8 i5, .int .u64 i6, .bool i7, .int .u64 i8, .bool i9, .bool i10, .int .u32 i11] 41))
  have K1 := Lib.hid K1
  have HZ := Lib.hid hz
  clear hz B
  go_enter Try.func36, Try.ntmps36
  go_wp2_with (first
    | ((with_reducible refine gate_load 36 rfl ?_); refine wpList_load_row rfl 36 _ rfl _ rfl 36 _ _ _ HB1.out Try.underlying36 rfl (by rw [HZ.out]; kernel_rfl) ?_)
    | ((with_reducible refine gate_load 41 rfl ?_); refine wpList_load_row rfl 41 _ rfl _ rfl 41 _ _ _ HB2.out Try.underlying41 rfl (by kernel_rfl) ?_)
    | (go_at_call 37; refine (K1.out _).mono ?_; rintro e w1 ⟨rfl, hg⟩; have HW2 := Lib.hid (HW.out.trans hg); clear hg))
  all_goals (go_ret; exact ⟨rfl, HW2.out⟩)
def moreV (s : StV) : Int := if goes s then (part s.desired (s.most - 100)).1 else 0
set_option maxRecDepth 100000 in
theorem more_calls {cs : Array Value} {s : StV} (h : StF cs s) (hd : 0 ≤ s.desired ∧ s.desired ≤ 65536) (hm : goes s = true → 100 ≤ s.most ∧ s.most ≤ 200) (w : World) : Calls Try.prog 38 #[.agg cs] w fun e w' => e = .returned (.int .i64 (moreV s)) ∧ Grw w w' := by
  have hz := h.size
  have K1 := fun W => goes_calls h W
  have v1 := h.desired
  have v2 := h.most
  clear h
  unfold moreV
  obtain ⟨o, ho⟩ : ∃ o, goes s = o := ⟨_, rfl⟩
  rw [ho] at K1 hm ⊢
  clear ho
  have K1 := Lib.hid K1
  have HB1 := Lib.hid (Boxd.new w 36 cs)
  have HW := Lib.hid ((Grw.refl w).alloc (.cells cs 36))
  have V1 := Lib.hid v1
  have V2 := Lib.hid v2
  have HZ := Lib.hid hz
  clear hz v1 v2
  cases o with
  | false =>
    clear hm hd
    go_enter Try.func38, Try.ntmps38
    go_wp2_with (first
      | ((with_reducible refine gate_load 36 rfl ?_); refine wpList_load_row rfl 36 _ rfl _ rfl 36 _ _ _ HB1.out Try.underlying36 rfl (by rw [HZ.out]; kernel_rfl) ?_)
      | (go_at_call 29; refine (K1.out _).mono ?_; rintro e w1 ⟨rfl, hg⟩; have HW2 := Lib.hid (HW.out.trans hg); clear hg))
    all_goals (go_ret; exact ⟨rfl, HW2.out⟩)
  | true =>
    obtain ⟨m1, m2⟩ := hm rfl
    obtain ⟨d1, d2⟩ := hd
    have K2 := fun W => part_calls s.desired (s.most - 100) (by unfold inI64; rw [decide_eq_true (by omega), decide_eq_true (by omega)]; rfl) (by unfold inI64; rw [decide_eq_true (by omega), decide_eq_true (by omega)]; rfl) W
    obtain ⟨p, hp⟩ : ∃ p, (part s.desired (s.most - 100)).1 = p := ⟨_, rfl⟩
    obtain ⟨p2, hp2⟩ : ∃ p, (part s.desired (s.most - 100)).2 = p := ⟨_, rfl⟩
    rw [hp, hp2] at K2
    rw [hp]
    have K2 := Lib.hid K2
    clear hp hp2
    go_enter Try.func38, Try.ntmps38
    go_wp2_with (first
      | ((with_reducible refine gate_load 36 rfl ?_); refine wpList_load_row rfl 36 _ rfl _ rfl 36 _ _ _ HB1.out Try.underlying36 rfl (by rw [HZ.out]; kernel_rfl) ?_)
      | (go_at_call 29; refine (K1.out _).mono ?_; rintro e w1 ⟨rfl, hg⟩; have c1 := (HB1.out.below hg.below).cell V1.out; have c2 := (HB1.out.below hg.below).cell V2.out; have HW2 := Lib.hid (HW.out.trans hg); clear hg)
      | (go_at_call 54; refine (K2.out _).mono ?_; rintro e w2 ⟨rfl, rfl⟩))
    all_goals (go_ret; exact ⟨rfl, HW2.out⟩)
end Go.Proofs.Ytnlcpgeapgnkgaa.H
