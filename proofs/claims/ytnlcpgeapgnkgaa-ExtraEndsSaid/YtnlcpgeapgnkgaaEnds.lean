/- The walk of ExtraEnds. -/
import Derived.Test.YtnlcpgeapgnkgaaEndsP
namespace Go.Proofs.Ytnlcpgeapgnkgaa.H
open Go.RowKit Go.Proofs.YtnlcpgeapgnkgaaW.PrintWords Go.Proofs.YtnlcpgeapgnkgaaW.PrintLast Go.Proofs.YtnlcpgeapgnkgaaW.PrintMore
set_option linter.unusedVariables false
set_option linter.unusedSimpArgs false
set_option maxHeartbeats 8000000 in
set_option maxRecDepth 100000 in
theorem exends_big {cs : Array Value} {s : StV} (hF : StF cs s) (L : List InV) (w : World) (hL : kInst.C w s.ia s.ilen L) (all : Bool) (hg : (decide (300 < s.ilen) || decide (300 < s.olen)) = true) :
    Calls Try.prog 3 #[.agg cs, .bool all] w fun e w' => e = .returned (.bool true) ∧ Below w.heap.size w w' := by
  have hz := hF.size
  have vi := hF.insts
  have vd := hF.desired
  have vs := hF.surge
  have KG := Lib.hid (fun W => great_calls hF W)
  have HF := Lib.hid hF
  have HB0 := Lib.hid (Boxd.new w 36 cs)
  have HW0 := Lib.hid ((Below.refl w.heap.size w).alloc (Nat.le_refl _) (.cells cs 36))
  have HL := Lib.hid hL
  have HZ := Lib.hid hz
  have VI := Lib.hid vi
  have VD := Lib.hid vd
  have VS := Lib.hid vs
  have mixed : Try.prog.follows .mixedOrders = true := by kernel_rfl
  rw [hg] at KG
  clear hz vi vd vs hF hL hg
  go_enter Try.func3, Try.ntmps3
  go_wp2_with (first
    | ((with_reducible refine gate_load 36 rfl ?_); refine wpList_load_row rfl 36 _ rfl _ rfl 36 _ _ _ HB0.out Try.underlying36 rfl (by rw [HZ.out]; kernel_rfl) ?_)
    | (go_at_call 9; refine (KG.out _).mono ?_; rintro e w1 ⟨rfl, hg⟩; have HB1 := Lib.hid (HB0.out.below hg.below); have HW1 := Lib.hid (below_step HW0.out hg.below); have c46 := HB1.out.cell VI.out; clear hg)
    | (go_at_call 11; refine (lives25 _).mono ?_; rintro e w9 ⟨rfl, hw⟩; have HW9 := Lib.hid (below_step HW1.out hw); clear hw))
  go_ret
  exact ⟨rfl, HW9.out⟩
set_option maxHeartbeats 8000000 in
set_option maxRecDepth 100000 in
theorem exends_no {cs : Array Value} {s : StV} (hF : StF cs s) (L : List InV) (w : World) (hL : kInst.C w s.ia s.ilen L) (all : Bool) (hg : (decide (300 < s.ilen) || decide (300 < s.olen)) = false) (hM : ¬ MayL L) :
    Calls Try.prog 3 #[.agg cs, .bool all] w fun e w' => e = .returned (.bool true) ∧ Below w.heap.size w w' := by
  have hz := hF.size
  have vi := hF.insts
  have vd := hF.desired
  have vs := hF.surge
  have KG := Lib.hid (fun W => great_calls hF W)
  have HF := Lib.hid hF
  have HB0 := Lib.hid (Boxd.new w 36 cs)
  have HW0 := Lib.hid ((Below.refl w.heap.size w).alloc (Nat.le_refl _) (.cells cs 36))
  have HL := Lib.hid hL
  have HZ := Lib.hid hz
  have VI := Lib.hid vi
  have VD := Lib.hid vd
  have VS := Lib.hid vs
  have mixed : Try.prog.follows .mixedOrders = true := by kernel_rfl
  rw [hg] at KG
  have HM := Lib.hid hM
  clear hz vi vd vs hF hL hg hM
  go_enter Try.func3, Try.ntmps3
  go_wp2_with (first
    | ((with_reducible refine gate_load 36 rfl ?_); refine wpList_load_row rfl 36 _ rfl _ rfl 36 _ _ _ HB0.out Try.underlying36 rfl (by rw [HZ.out]; kernel_rfl) ?_)
    | (go_at_call 9; refine (KG.out _).mono ?_; rintro e w1 ⟨rfl, hg⟩; have HB1 := Lib.hid (HB0.out.below hg.below); have HW1 := Lib.hid (below_step HW0.out hg.below); have c46 := HB1.out.cell VI.out; clear hg)
    | (go_at_call 10; refine (rsumsMay_calls _ _ _ L _ (Kd.C_below HL.out HW1.out)).mono ?_; rintro e w2 ⟨hr, hw⟩; obtain rfl := hr.n HM.out; have HB2 := Lib.hid (HB1.out.below hw); have HW2 := Lib.hid (below_step HW1.out hw); have d42 := HB2.out.cell VD.out; have d8 := HB2.out.cell VS.out; clear hw hr)
    | (go_at_call 11; refine (lives25 _).mono ?_; rintro e w9 ⟨rfl, hw⟩; have HW9 := Lib.hid (below_step HW2.out hw); clear hw))
  go_ret
  exact ⟨rfl, HW9.out⟩
set_option maxHeartbeats 8000000 in
set_option maxRecDepth 100000 in
theorem exends_out {cs : Array Value} {s : StV} (hF : StF cs s) (L : List InV) (w : World) (hL : kInst.C w s.ia s.ilen L) (all : Bool) (hg : (decide (300 < s.ilen) || decide (300 < s.olen)) = false) (hM : MayL L) (hr : ¬ ((0 ≤ s.desired ∧ s.desired ≤ 65536) ∧ (0 ≤ s.surge ∧ s.surge ≤ 65536))) :
    Calls Try.prog 3 #[.agg cs, .bool all] w fun e w' => e = .returned (.bool true) ∧ Below w.heap.size w w' := by
  have hz := hF.size
  have vi := hF.insts
  have vd := hF.desired
  have vs := hF.surge
  have KG := Lib.hid (fun W => great_calls hF W)
  have HF := Lib.hid hF
  have HB0 := Lib.hid (Boxd.new w 36 cs)
  have HW0 := Lib.hid ((Below.refl w.heap.size w).alloc (Nat.le_refl _) (.cells cs 36))
  have HL := Lib.hid hL
  have HZ := Lib.hid hz
  have VI := Lib.hid vi
  have VD := Lib.hid vd
  have VS := Lib.hid vs
  have mixed : Try.prog.follows .mixedOrders = true := by kernel_rfl
  rw [hg] at KG
  have HM := Lib.hid hM
  obtain ⟨d, hd⟩ : ∃ d, s.desired = d := ⟨_, rfl⟩
  obtain ⟨u, hu⟩ : ∃ u, s.surge = u := ⟨_, rfl⟩
  rw [hd] at VD hr
  rw [hu] at VS hr
  clear hz vi vd vs hF hL hg hM hd hu
  rcases (by omega : d < 0 ∨ (0 ≤ d ∧ 65536 < d) ∨ (0 ≤ d ∧ d ≤ 65536 ∧ u < 0) ∨ (0 ≤ d ∧ d ≤ 65536 ∧ 0 ≤ u ∧ 65536 < u)) with z1 | ⟨z1, z2⟩ | ⟨z1, z2, z3⟩ | ⟨z1, z2, z3, z4⟩
  all_goals
    go_enter Try.func3, Try.ntmps3
    go_wp2_with (first
      | ((with_reducible refine gate_load 36 rfl ?_); refine wpList_load_row rfl 36 _ rfl _ rfl 36 _ _ _ HB0.out Try.underlying36 rfl (by rw [HZ.out]; kernel_rfl) ?_)
      | (go_at_call 9; refine (KG.out _).mono ?_; rintro e w1 ⟨rfl, hg⟩; have HB1 := Lib.hid (HB0.out.below hg.below); have HW1 := Lib.hid (below_step HW0.out hg.below); have c46 := HB1.out.cell VI.out; clear hg)
      | (go_at_call 10; refine (rsumsMay_calls _ _ _ L _ (Kd.C_below HL.out HW1.out)).mono ?_; rintro e w2 ⟨hr, hw⟩; obtain rfl := hr.b HM.out; have HB2 := Lib.hid (HB1.out.below hw); have HW2 := Lib.hid (below_step HW1.out hw); have d42 := HB2.out.cell VD.out; have d8 := HB2.out.cell VS.out; clear hw hr)
      | (go_at_call 11; refine (lives25 _).mono ?_; rintro e w9 ⟨rfl, hw⟩; have HW9 := Lib.hid (below_step HW2.out hw); clear hw))
    all_goals first
      | (exfalso; omega)
      | (go_ret; exact ⟨rfl, HW9.out⟩)
theorem R_C {α : Type} {d : Kd α} {e : Nat} {w : World} {base : Nat} {ok : Nat → Prop} {A : Option Addr} {n c : Nat} {xs : List α} (h : d.R e w base ok (.slice A n c) xs) : d.C w A n xs := by
  obtain ⟨e1, _, hC⟩ := Kd.R_reads' h
  rw [← e1] at hC
  exact hC
def RetPos (e : Ending) : Prop := ∃ q : Int, e = .returned (.int .i64 q) ∧ 0 < q
theorem of_all_l {c9 : Array Value} {s : StV} {L : List InV} {A : Option Addr} {n c : Nat} (hd : 0 ≤ s.desired ∧ s.desired ≤ 65536) (hs : 0 ≤ s.surge ∧ s.surge ≤ 65536) (hL : MayL L) (hf : StF c9 (endS s A n c)) (w : World) (hC : kInst.C w A n (L.map (fx 2))) :
    Calls Try.prog 13 #[.agg c9] w fun e w' => e = .returned (.int .i64 0) ∧ Below w.heap.size w w' := by
  have := of_yes hf (L.map (fx 2)) w hC (endMay hd hs hL 2 A n c)
  rw [of_end_all hd hs hL A n c] at this
  exact this
theorem of_one_l {c9 : Array Value} {s : StV} {L : List InV} {A : Option Addr} {n c : Nat} (hd : 0 ≤ s.desired ∧ s.desired ≤ 65536) (hs : 0 ≤ s.surge ∧ s.surge ≤ 65536) (hL : MayL L) (hf : StF c9 (endS s A n c)) (w : World) (hC : kInst.C w A n (L.map (fx 1))) (ha : L.any serves = true) :
    Calls Try.prog 13 #[.agg c9] w fun e w' => RetPos e ∧ Below w.heap.size w w' :=
  (of_yes hf (L.map (fx 1)) w hC (endMay hd hs hL 1 A n c)).mono fun e w' h => ⟨⟨_, h.1, of_end_pos hd hs hL A n c ha⟩, h.2⟩
theorem low_box {w w1 w2 : World} {g : Nat} (hg : g = w.heap.size) (h1 : Below w.heap.size w w1) (h2 : Below g w1 w2) : Below w.heap.size w w2 := h1.trans (hg ▸ h2)
end Go.Proofs.Ytnlcpgeapgnkgaa.H
