/- extra.may; the document's May of instances. -/
import Derived.Test.YtnlcpgeapgnkgaaInsts
namespace Go.Proofs.Ytnlcpgeapgnkgaa.H
open Go.RowKit Go.Proofs.YtnlcpgeapgnkgaaW.PrintWords Go.Proofs.YtnlcpgeapgnkgaaW.PrintLast Go.Proofs.YtnlcpgeapgnkgaaW.PrintMore
set_option linter.unusedVariables false
set_option linter.unusedSimpArgs false
def inR (n lo hi : Int) : Bool := clamp n lo hi == n
theorem inR_iff {n lo hi : Int} (h : lo ≤ hi) : inR n lo hi = true ↔ lo ≤ n ∧ n ≤ hi := by
  unfold inR clamp
  rw [beq_iff_eq]
  omega
set_option maxRecDepth 100000 in
theorem may1_calls (n lo hi : Int) (w : World) : Calls Try.prog 51 #[.int .i64 n, .int .i64 lo, .int .i64 hi] w fun e w' => e = .returned (.bool (inR n lo hi)) ∧ w = w' := by
  have K := Lib.hid (clamp_calls n lo hi w)
  unfold inR
  obtain ⟨c, hc⟩ : ∃ c, clamp n lo hi = c := ⟨_, rfl⟩
  rw [hc] at K ⊢
  clear hc
  go_enter Try.func51, Try.ntmps51
  go_wp2_with (first | (go_at_call 52; refine K.out.mono ?_; rintro e w' ⟨rfl, rfl⟩))
  all_goals (go_ret; exact ⟨rfl, rfl⟩)
/-- May a state be asked about. -/
def MaySt (s : StV) (L : List InV) : Prop := (0 ≤ s.desired ∧ s.desired ≤ 65536) ∧ (0 ≤ s.surge ∧ s.surge ≤ 65536) ∧ (goes s = true → 100 ≤ s.most ∧ s.most ≤ 200) ∧ MayL L
set_option maxHeartbeats 2000000 in
set_option maxRecDepth 100000 in
theorem may_calls {cs : Array Value} {s : StV} (h : StF cs s) (L : List InV) (w : World) (hL : kInst.C w s.ia s.ilen L) :
    Calls Try.prog 30 #[.agg cs] w fun e w' => RetB e (MaySt s L) ∧ Below w.heap.size w w' := by
  have hz := h.size
  have v1 := h.desired
  have v2 := h.surge
  have v3 := h.most
  have v4 := h.insts
  have KG := fun W => goes_calls h W
  clear h
  have i1 := inR_iff (n := s.desired) (lo := 0) (hi := 65536) (by omega)
  have i2 := inR_iff (n := s.surge) (lo := 0) (hi := 65536) (by omega)
  have i3 := inR_iff (n := s.most) (lo := 100) (hi := 200) (by omega)
  have K1 := fun W => may1_calls s.desired 0 65536 W
  have K2 := fun W => may1_calls s.surge 0 65536 W
  have K3 := fun W => may1_calls s.most 100 200 W
  obtain ⟨d1, hd1⟩ : ∃ d, inR s.desired 0 65536 = d := ⟨_, rfl⟩
  obtain ⟨d2, hd2⟩ : ∃ d, inR s.surge 0 65536 = d := ⟨_, rfl⟩
  obtain ⟨d3, hd3⟩ : ∃ d, inR s.most 100 200 = d := ⟨_, rfl⟩
  obtain ⟨g, hg⟩ : ∃ d, goes s = d := ⟨_, rfl⟩
  rw [hd1] at i1 K1
  rw [hd2] at i2 K2
  rw [hd3] at i3 K3
  rw [hg] at KG
  have P : MaySt s L ↔ d1 = true ∧ d2 = true ∧ (g = true → d3 = true) ∧ MayL L := by unfold MaySt; rw [i1, i2, i3, hg]
  obtain ⟨PP, hPP⟩ : ∃ p, MaySt s L = p := ⟨_, rfl⟩
  rw [hPP] at P ⊢
  have HP := Lib.hid P
  have K1 := Lib.hid K1
  have K2 := Lib.hid K2
  have K3 := Lib.hid K3
  have KG := Lib.hid KG
  have HB1 := Lib.hid (Boxd.new w 36 cs)
  have HW := Lib.hid ((Below.refl w.heap.size w).alloc (Nat.le_refl _) (.cells cs 36))
  have V3 := Lib.hid v3
  have V4 := Lib.hid v4
  have HL := Lib.hid hL
  have HZ := Lib.hid hz
  clear hz v3 v4 hL i1 i2 i3 hd1 hd2 hd3 hg P hPP
  cases d1
  case false =>
    go_enter Try.func30, Try.ntmps30
    go_wp2_with (first | (go_at_call 51; refine (K1.out _).mono ?_; rintro e w' ⟨rfl, rfl⟩))
    all_goals (go_ret; exact ⟨.f rfl (fun h => by have := (HP.out.1 h).1; cases this), HW.out⟩)
  case true =>
    cases d2
    case false =>
      go_enter Try.func30, Try.ntmps30
      go_wp2_with (first | (go_at_call 51; (first | (with_reducible refine (K1.out _).mono ?_) | (with_reducible refine (K2.out _).mono ?_)); rintro e w' ⟨rfl, rfl⟩))
      all_goals (go_ret; exact ⟨.f rfl (fun h => by have := (HP.out.1 h).2.1; cases this), HW.out⟩)
    case true =>
      cases g
      all_goals cases d3
      all_goals
        go_enter Try.func30, Try.ntmps30
        go_wp2_with (first
          | (go_at_call 51; (first | (with_reducible refine (K1.out _).mono ?_) | (with_reducible refine (K2.out _).mono ?_) | (with_reducible refine (K3.out _).mono ?_)); rintro e w' ⟨rfl, rfl⟩)
          | ((with_reducible refine gate_load 36 rfl ?_); refine load_row_g (by rfl) 36 _ rfl _ rfl 36 _ _ _ HB1.out Try.underlying36 rfl (by rw [HZ.out]; kernel_rfl) ?_)
          | (go_at_call 29; refine (KG.out _).mono ?_; rintro e w1 ⟨rfl, hg⟩; have c3 := (HB1.out.below hg.below).cell V3.out; have c4 := (HB1.out.below hg.below).cell V4.out; have HW2 := Lib.hid (below_step HW.out hg.below); clear hg)
          | (go_at_call 53; refine (sumsMay_calls _ _ _ L _ (Kd.C_below HL.out HW2.out)).mono ?_; rintro e w2 ⟨⟨b, rfl, hb⟩, hw2⟩; have HW3 := Lib.hid (below_step HW2.out hw2); have HBB := Lib.hid hb; clear hw2 hb))
      all_goals first
        | (go_ret; exact ⟨⟨_, rfl, ⟨fun hb => HP.out.2 (by have := HBB.out.1 hb; simp [this]), fun h => HBB.out.2 (by have h' := HP.out.1 h; simp at h'; exact h')⟩⟩, HW3.out⟩)
        | (go_ret; exact ⟨.f rfl (fun h => by have h' := HP.out.1 h; simp at h'), HW2.out⟩)
end Go.Proofs.Ytnlcpgeapgnkgaa.H
