/- extra.Of and extra.Ceiling. -/
import Derived.Test.YtnlcpgeapgnkgaaExtra3
namespace Go.Proofs.Ytnlcpgeapgnkgaa.H
open Go.RowKit Go.Proofs.YtnlcpgeapgnkgaaW.PrintWords Go.Proofs.YtnlcpgeapgnkgaaW.PrintLast Go.Proofs.YtnlcpgeapgnkgaaW.PrintMore
set_option linter.unusedVariables false
set_option linter.unusedSimpArgs false
theorem wpQuiet_load {P : Program} {ops : Array Oper} {C : World → Prop} {Q : Act → Prop} {a : Act} {o : Oper} {rest : List Oper} (hw : Region.wanted o (yielded ops a.tmps) = true) (ty : TypeId) (x : Operand) (ho : o.op = .load ty x) (p : Addr) (hx : a.eval x = .pointer (some p)) (v : Value)
    (hrun : ∀ w, C w → (Instr.loadAt ty (.pointer (some p))).run P w = .ok v w) (h : wpQuiet P ops C Q rest (a.put o.dst v)) : wpQuiet P ops C Q (o :: rest) a :=
  wpQuiet_step fun K hK => by
    rw [if_pos hw]
    refine ⟨v, fun w hc => ?_, hK _ h⟩
    unfold Oper.quietAt execOp
    simp only [ho, hx, Sem.run_bind, hrun w hc, Result.andThen_ok, Sem.run_pure]
    exact ⟨rfl, rfl⟩
theorem growB (w : World) (n : Nat) (os : Array Obj) : Below w.heap.size w (Go.Sort.grow (w.drewN n) os) := Go.Lib.below_grow w.heap.size w (Nat.le_refl _) n os
set_option maxRecDepth 100000 in
theorem of_no {cs : Array Value} {s : StV} (h : StF cs s) (L : List InV) (w : World) (hL : kInst.C w s.ia s.ilen L) (hM : ¬ MaySt s L) :
    Calls Try.prog 13 #[.agg cs] w fun e w' => e = .returned (.int .i64 0) ∧ Below w.heap.size w w' := by
  have hz := h.size
  have HB0 := Lib.hid (Boxd.new w 36 cs)
  have HW0 := Lib.hid ((Below.refl w.heap.size w).alloc (Nat.le_refl _) (.cells cs 36))
  have HL := Lib.hid hL
  have HZ := Lib.hid hz
  have HM := Lib.hid hM
  have mixed : Try.prog.follows .mixedOrders = true := by kernel_rfl
  clear hz hL hM
  go_enter Try.func13, Try.ntmps13
  go_wp2_with (first
    | ((with_reducible refine gate_load 36 rfl ?_); refine wpList_load_row rfl 36 _ rfl _ rfl 36 _ _ _ HB0.out Try.underlying36 rfl (by rw [HZ.out]; kernel_rfl) ?_)
    | (go_at_call 30; refine (may_calls h L _ (Kd.C_below HL.out HW0.out)).mono ?_; rintro e w1 ⟨⟨b, rfl, hb⟩, hw1⟩; obtain rfl : b = false := (by cases b with | false => rfl | true => exact absurd (hb.1 rfl) HM.out); have HB1 := Lib.hid (HB0.out.below hw1); have HW1 := Lib.hid (below_step HW0.out hw1); clear hw1 hb))
  all_goals (go_ret; exact ⟨rfl, HW1.out⟩)
set_option maxRecDepth 100000 in
theorem ceil_no {cs : Array Value} {s : StV} (h : StF cs s) (L : List InV) (w : World) (hL : kInst.C w s.ia s.ilen L) (hM : ¬ MaySt s L) :
    Calls Try.prog 15 #[.agg cs] w fun e w' => e = .returned (.int .i64 0) ∧ Below w.heap.size w w' := by
  have hz := h.size
  have HB0 := Lib.hid (Boxd.new w 36 cs)
  have HW0 := Lib.hid ((Below.refl w.heap.size w).alloc (Nat.le_refl _) (.cells cs 36))
  have HL := Lib.hid hL
  have HZ := Lib.hid hz
  have HM := Lib.hid hM
  have mixed : Try.prog.follows .mixedOrders = true := by kernel_rfl
  clear hz hL hM
  go_enter Try.func15, Try.ntmps15
  go_wp2_with (first
    | ((with_reducible refine gate_load 36 rfl ?_); refine wpList_load_row rfl 36 _ rfl _ rfl 36 _ _ _ HB0.out Try.underlying36 rfl (by rw [HZ.out]; kernel_rfl) ?_)
    | (go_at_call 30; refine (may_calls h L _ (Kd.C_below HL.out HW0.out)).mono ?_; rintro e w1 ⟨⟨b, rfl, hb⟩, hw1⟩; obtain rfl : b = false := (by cases b with | false => rfl | true => exact absurd (hb.1 rfl) HM.out); have HB1 := Lib.hid (HB0.out.below hw1); have HW1 := Lib.hid (below_step HW0.out hw1); clear hw1 hb))
  all_goals (go_ret; exact ⟨rfl, HW1.out⟩)
def ofV (s : StV) (L : List InV) : Int := max (min (wgh (risky s) L).1 s.surge) (min (wgh (old s) L).1 (max (wgh (old s) L).2 (moreV s)))
set_option maxHeartbeats 2000000 in
set_option maxRecDepth 100000 in
theorem of_yes {cs : Array Value} {s : StV} (h : StF cs s) (L : List InV) (w : World) (hL : kInst.C w s.ia s.ilen L) (hM : MaySt s L) :
    Calls Try.prog 13 #[.agg cs] w fun e w' => e = .returned (.int .i64 (ofV s L)) ∧ Below w.heap.size w w' := by
  unfold ofV
  have mg := hM.2.2.1
  have md := hM.1
  have ml := hM.2.2.2
  have KM := fun W => more_calls h md mg W
  obtain ⟨mo, hmo⟩ : ∃ m, moreV s = m := ⟨_, rfl⟩
  rw [hmo] at KM ⊢
  have KM := Lib.hid KM
  have ML := Lib.hid ml
  clear mg md ml hmo
  have hz := h.size
  have HB0 := Lib.hid (Boxd.new w 36 cs)
  have HW0 := Lib.hid ((Below.refl w.heap.size w).alloc (Nat.le_refl _) (.cells cs 36))
  have HL := Lib.hid hL
  have HZ := Lib.hid hz
  have HM := Lib.hid hM
  have mixed : Try.prog.follows .mixedOrders = true := by kernel_rfl
  clear hz hL hM
  have vs := h.surge
  have e1 : ∀ args w, (callFunc 34 args).run Try.prog w = .ok (.enter 34 args) w := enters_of Try.func34 (by kernel_rfl) rfl
  have e2 : ∀ args w, (callFunc 36 args).run Try.prog w = .ok (.enter 36 args) w := enters_of Try.func36 (by kernel_rfl) rfl
  have W1 := Lib.hid (fun (W : World) (hW : Below w.heap.size w W) (hB : Boxd W w.heap.size 36 cs) => weigh_calls h L W (Kd.C_below HL.out hW) 34 w.heap.size (risky s) e1 hB (fun x W' hb => of1_calls h x _ W' hb) ML.out)
  have W2 := Lib.hid (fun (W : World) (hW : Below w.heap.size w W) (hB : Boxd W w.heap.size 36 cs) => weigh_calls h L W (Kd.C_below HL.out hW) 36 w.heap.size (old s) e2 hB (fun x W' hb => of2_calls h x _ W' hb) ML.out)
  obtain ⟨r1, hr1⟩ : ∃ r, (wgh (risky s) L).1 = r := ⟨_, rfl⟩
  obtain ⟨r2, hr2⟩ : ∃ r, (wgh (risky s) L).2 = r := ⟨_, rfl⟩
  obtain ⟨o1, ho1⟩ : ∃ r, (wgh (old s) L).1 = r := ⟨_, rfl⟩
  obtain ⟨o2, ho2⟩ : ∃ r, (wgh (old s) L).2 = r := ⟨_, rfl⟩
  rw [hr1, hr2] at W1
  rw [ho1, ho2] at W2
  rw [hr1, ho1, ho2]
  have VS := Lib.hid vs
  clear hr1 hr2 ho1 ho2 e1 e2 vs
  go_enter Try.func13, Try.ntmps13
  go_wp2_with (first
    | ((with_reducible refine gate_load 36 rfl ?_); refine wpList_load_row rfl 36 _ rfl _ rfl 36 _ _ _ (by first | exact HB0.out | exact HB1.out | exact HB2.out) Try.underlying36 rfl (by rw [HZ.out]; kernel_rfl) ?_)
    | (go_at_call 30; refine (may_calls h L _ (Kd.C_below HL.out HW0.out)).mono ?_; rintro e w1 ⟨⟨b, rfl, hb⟩, hw1⟩; obtain rfl : b = true := hb.2 HM.out; have HB1 := Lib.hid (HB0.out.below hw1); have HW1 := Lib.hid (below_step HW0.out hw1); clear hw1 hb)
    | (go_at_call 33; (with_reducible refine (W1.out _ HW1.out HB1.out).mono ?_); rintro e w2 ⟨rfl, hw2⟩; have HB2 := Lib.hid (HB1.out.below hw2); have HW2 := Lib.hid (below_step HW1.out hw2); clear hw2)
    | (go_at_call 33; (with_reducible refine (W2.out _ HW2.out HB2.out).mono ?_); rintro e w3 ⟨rfl, hw3⟩; have HB3 := Lib.hid (HB2.out.below hw3); have HW3 := Lib.hid (below_step HW2.out hw3); clear hw3))
  have ld3 : ∀ n os, (Instr.loadAt 36 (.pointer (some ⟨w.heap.size, 0, none⟩))).run Try.prog (Go.Sort.grow (w3.drewN n) os) = .ok (.agg cs) (Go.Sort.grow (w3.drewN n) os) := fun n os => (HB3.out.below (growB w3 n os)).load Try.underlying36 rfl (by rw [HZ.out]; kernel_rfl)
  have sc3 : ∀ n os, (Go.Sort.grow (w3.drewN n) os).cell? { block := w.heap.size, off := 8 } = some (.int .i64 s.surge) := fun n os => (HB3.out.below (growB w3 n os)).cell VS.out
  refine Go.wp_region_quiet_grown (by assumption) (by kernel_rfl) ?_
  repeat (go_big_quiet_step (fail))
  refine wpQuiet_load (by rfl) 36 _ rfl ⟨w.heap.size, 0, none⟩ rfl (.agg cs) (by rintro _ ⟨p, rfl⟩; exact ld3 p.n p.os) ?_
  repeat (quiet_step (first | (go_at_call 38; exact Go.Calls.grown_of (Grw.quiet (KM.out _)))))
  refine wpQuiet_nil ?_
  intro _ hw'
  obtain ⟨⟨nq, osq⟩, hw''⟩ := hw'
  subst hw''
  have HW4 := Lib.hid (below_step HW3.out (growB w3 nq osq))
  go_wp2_with (fail)
  go_ret
  exact ⟨rfl, HW4.out⟩
set_option maxHeartbeats 2000000 in
set_option maxRecDepth 100000 in
theorem ceil_yes {cs : Array Value} {s : StV} (h : StF cs s) (L : List InV) (w : World) (hL : kInst.C w s.ia s.ilen L) (hM : MaySt s L) (hmo : 0 ≤ moreV s ∧ moreV s ≤ 1000000000) :
    Calls Try.prog 15 #[.agg cs] w fun e w' => e = .returned (.int .i64 (s.desired + max (max s.surge 100) (moreV s))) ∧ Below w.heap.size w w' := by
  have hmo0 := hmo
  have hsu := hM.2.1
  have hde := hM.1
  clear hmo
  have mg := hM.2.2.1
  have md := hM.1
  have ml := hM.2.2.2
  have KM := fun W => more_calls h md mg W
  obtain ⟨mo, hmo⟩ : ∃ m, moreV s = m := ⟨_, rfl⟩
  rw [hmo] at KM hmo0 ⊢
  have KM := Lib.hid KM
  have ML := Lib.hid ml
  clear mg md ml hmo
  have hz := h.size
  have HB0 := Lib.hid (Boxd.new w 36 cs)
  have HW0 := Lib.hid ((Below.refl w.heap.size w).alloc (Nat.le_refl _) (.cells cs 36))
  have HL := Lib.hid hL
  have HZ := Lib.hid hz
  have HM := Lib.hid hM
  have mixed : Try.prog.follows .mixedOrders = true := by kernel_rfl
  clear hz hL hM
  have vs := h.surge
  have vd := h.desired
  have VS := Lib.hid vs
  have VD := Lib.hid vd
  clear vs vd
  go_enter Try.func15, Try.ntmps15
  go_wp2_with (first
    | ((with_reducible refine gate_load 36 rfl ?_); refine wpList_load_row rfl 36 _ rfl _ rfl 36 _ _ _ (by first | exact HB0.out | exact HB1.out) Try.underlying36 rfl (by rw [HZ.out]; kernel_rfl) ?_)
    | (go_at_call 30; refine (may_calls h L _ (Kd.C_below HL.out HW0.out)).mono ?_; rintro e w1 ⟨⟨b, rfl, hb⟩, hw1⟩; obtain rfl : b = true := hb.2 HM.out; have HB1 := Lib.hid (HB0.out.below hw1); have HW1 := Lib.hid (below_step HW0.out hw1); clear hw1 hb))
  have ld3 : ∀ n os, (Instr.loadAt 36 (.pointer (some ⟨w.heap.size, 0, none⟩))).run Try.prog (Go.Sort.grow (w1.drewN n) os) = .ok (.agg cs) (Go.Sort.grow (w1.drewN n) os) := fun n os => (HB1.out.below (growB w1 n os)).load Try.underlying36 rfl (by rw [HZ.out]; kernel_rfl)
  have sc3 : ∀ n os, (Go.Sort.grow (w1.drewN n) os).cell? { block := w.heap.size, off := 8 } = some (.int .i64 s.surge) := fun n os => (HB1.out.below (growB w1 n os)).cell VS.out
  have sc4 : ∀ n os, (Go.Sort.grow (w1.drewN n) os).cell? { block := w.heap.size, off := 42 } = some (.int .i64 s.desired) := fun n os => (HB1.out.below (growB w1 n os)).cell VD.out
  refine Go.wp_region_quiet_grown (by assumption) (by kernel_rfl) ?_
  repeat (go_big_quiet_step (fail))
  refine wpQuiet_load (by rfl) 36 _ rfl ⟨w.heap.size, 0, none⟩ rfl (.agg cs) (by rintro _ ⟨p, rfl⟩; exact ld3 p.n p.os) ?_
  repeat (quiet_step (first | (go_at_call 38; exact Go.Calls.grown_of (Grw.quiet (KM.out _)))))
  refine wpQuiet_nil ?_
  intro _ hw'
  obtain ⟨⟨nq, osq⟩, hw''⟩ := hw'
  subst hw''
  have HW4 := Lib.hid (below_step HW1.out (growB w1 nq osq))
  go_wp2_with (fail)
  all_goals (go_ret; exact ⟨ret_i (by first | omega | (rw [IntKind.wrap_i64]; omega)), HW4.out⟩)
end Go.Proofs.Ytnlcpgeapgnkgaa.H
