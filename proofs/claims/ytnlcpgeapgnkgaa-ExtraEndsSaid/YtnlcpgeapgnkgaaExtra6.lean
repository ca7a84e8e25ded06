/- The document's May of instances. -/
import Derived.Test.YtnlcpgeapgnkgaaExtra5
namespace Go.Proofs.Ytnlcpgeapgnkgaa.H
open Go.RowKit Go.Proofs.YtnlcpgeapgnkgaaW.PrintWords Go.Proofs.YtnlcpgeapgnkgaaW.PrintLast Go.Proofs.YtnlcpgeapgnkgaaW.PrintMore
set_option linter.unusedVariables false
set_option linter.unusedSimpArgs false
theorem run_load_any {P : Program} {w : World} (ty : TypeId) (p : Addr) (cs : List Value) (d : TypeDesc) (hc : ∀ j v, cs[j]? = some v → w.cell? (p.add j) = some v)
    (hu : P.underlying ty = some d) (hd : d.isRow = true) (hi : (P.info? ty).map (·.size) = some cs.length) : (Instr.loadAt ty (.pointer (some p))).run P w = .ok (.agg cs.toArray) w := by
  have hl : (loadCells p cs.length).run P w = .ok cs.toArray w := run_loadCells_list (P := P) w p cs hc
  cases hq : P.info? ty with
  | none => simp [hq] at hi
  | some i =>
    have hs : i.size = cs.length := by simpa [hq] using hi
    have hagg : (isAgg ty).run P w = .ok true w := by
      unfold isAgg
      rw [Sem.run_bind, run_underlying hu w]
      cases d <;> simp_all
    simp [Instr.loadAt, Instr.sureAddr, loadVar, Sem.run_bind, hagg, sizeOf, typeInfo, hq, hs, hl]
theorem add_zero' (a : Addr) : a.add 0 = a := by unfold Addr.add; rw [if_pos rfl]
set_option maxHeartbeats 4000000 in
set_option maxRecDepth 100000 in
theorem rsumsMay_calls (A : Option Addr) (c n : Nat) (L : List InV) (w : World) (h : kInst.C w A n L) :
    Calls Try.prog 10 #[.slice A n c] w fun e w' => RetB e (MayL L) ∧ Below w.heap.size w w' := by
  have hl := h.1
  have hm := Kd.C_max h
  have H := Lib.hid h
  have HL := Lib.hid hl
  have mixed : Try.prog.follows .mixedOrders = true := by kernel_rfl
  clear h hl
  by_cases hbig : 4096 < n
  · go_enter Try.func10, Try.ntmps10
    go_wp2_with (fail)
    all_goals first
      | (exfalso; omega)
      | (go_ret; exact ⟨.f rfl (fun hM => by have := hM.1; have := HL.out; omega), Below.refl _ _⟩)
  · go_enter Try.func10, Try.ntmps10
    go_wp2_with (fail)
    go_loopw [3] (fun v3 wr => ∃ (i : Nat), i ≤ n ∧ v3 = .int .i64 i ∧ Hid (Below w.heap.size w wr) ∧ Hid (∀ j, j < i → instMay (L.getD j noInst) = true ∧ (0 < j → (L.getD (j - 1) noInst).id < (L.getD j noInst).id))) (fun v3 _ => n - (intOf v3).toNat)
    case atStart => exact ⟨0, by omega, rfl, Lib.hid (Below.refl _ _), Lib.hid (fun j h => absurd h (by omega))⟩
    case round =>
      obtain ⟨i, hi, rfl, HB, HD⟩ := hrel
      by_cases hlt : i < n
      · obtain ⟨ad, ea, _⟩ := inst_at (Kd.C_below H.out HB.out) i hlt
        subst ea
        have hat : ∀ k, k < n → ∀ m os, ∀ j v, (L.getD k noInst).cells.toList[j]? = some v → (Go.Sort.grow (wr.drewN m) os).cell? ((ad.add (k * 12)).add j) = some v := by
          intro k hk m os
          obtain ⟨ad', ea', hc⟩ := inst_at (Kd.C_below (Kd.C_below H.out HB.out) (growB wr m os)) k hk
          cases ea'
          exact hc
        have hx0 := hat i hlt
        obtain ⟨x, hx⟩ : ∃ x, L.getD i noInst = x := ⟨_, rfl⟩
        rw [hx] at hx0
        have K := fun W => rinstMay_calls x W
        obtain ⟨r, hr⟩ : ∃ r, instMay x = r := ⟨_, rfl⟩
        rw [hr] at K
        have HX := Lib.hid (And.intro hx hr)
        clear hx hr
        obtain ⟨i0, i1, i2, i3, i4, i5, i6, i7, i8, i9, i10, i11⟩ := x
        have ldx : ∀ m os, (Instr.loadAt 41 (.pointer (some (ad.add (i * 12))))).run Try.prog (Go.Sort.grow (wr.drewN m) os) = .ok (.agg #[.int .u64 i0, .int .u64 i1, .int .i64 i2, .int .i64 i3, .bool i4, .int .u8 i5, .int .u64 i6, .bool i7, .int .u64 i8, .bool i9, .bool i10, .int .u32 i11]) (Go.Sort.grow (wr.drewN m) os) := fun m os =>
          run_load_any 41 _ [.int .u64 i0, .int .u64 i1, .int .i64 i2, .int .i64 i3, .bool i4, .int .u8 i5, .int .u64 i6, .bool i7, .int .u64 i8, .bool i9, .bool i10, .int .u32 i11] _ (hx0 m os) Try.underlying41 rfl (by kernel_rfl)
        have q0 : ∀ m os, (Go.Sort.grow (wr.drewN m) os).cell? (ad.add (i * 12)) = some (.int .u64 i0) := fun m os => by have := hx0 m os 0 _ rfl; rw [add_zero'] at this; exact this
        simp only [InV.val, InV.cells] at K
        have K := Lib.hid K
        have HAT := Lib.hid hat
        clear hx0 hat
        cases r with
        | false =>
          go_wp2_with (fail)
          refine Go.wp_region_quiet_grown (by assumption) (by kernel_rfl) ?_
          repeat (go_big_quiet_step (fail))
          refine wpQuiet_load (by rfl) 41 _ rfl (ad.add (i * 12)) rfl (.agg #[.int .u64 i0, .int .u64 i1, .int .i64 i2, .int .i64 i3, .bool i4, .int .u8 i5, .int .u64 i6, .bool i7, .int .u64 i8, .bool i9, .bool i10, .int .u32 i11]) (by rintro _ ⟨p, rfl⟩; exact ldx p.n p.os) ?_
          quiet_step (first | (go_at_call 27; exact Go.Calls.grown_of (Grw.quiet (K.out _))))
          repeat (go_big_quiet_step (fail))
          refine wpQuiet_nil ?_
          intro _ hw'
          obtain ⟨⟨nq, osq⟩, hw''⟩ := hw'
          subst hw''
          have HW1 := Lib.hid (below_step HB.out (growB wr nq osq))
          go_wp2_with (fail)
          go_ret
          refine ⟨.f rfl (fun hM => ?_), HW1.out⟩
          obtain ⟨m1, _⟩ := hM.2 i (by rw [HL.out]; exact hlt)
          rw [HX.out.1, HX.out.2] at m1
          cases m1
        | true =>
          by_cases hi0 : i = 0
          · have g3 : decide (0 < i) = false := decide_eq_false (by omega)
            have g4 : decide ((i : Int) > 0) = false := decide_eq_false (by omega)
            have g5 : ¬ (0 : Int) < (i : Int) := by omega
            have g6 : ¬ 0 < i := by omega
            have HI0 := Lib.hid hi0
            clear hi0
            go_wp2_with (fail)
            refine Go.wp_region_quiet_grown (by assumption) (by kernel_rfl) ?_
            repeat (go_big_quiet_step (fail))
            refine wpQuiet_load (by rfl) 41 _ rfl (ad.add (i * 12)) rfl (.agg #[.int .u64 i0, .int .u64 i1, .int .i64 i2, .int .i64 i3, .bool i4, .int .u8 i5, .int .u64 i6, .bool i7, .int .u64 i8, .bool i9, .bool i10, .int .u32 i11]) (by rintro _ ⟨p, rfl⟩; exact ldx p.n p.os) ?_
            quiet_step (first | (go_at_call 27; exact Go.Calls.grown_of (Grw.quiet (K.out _))))
            repeat (go_big_quiet_step (fail))
            refine wpQuiet_nil ?_
            intro _ hw'
            obtain ⟨⟨nq, osq⟩, hw''⟩ := hw'
            subst hw''
            have HW1 := Lib.hid (below_step HB.out (growB wr nq osq))
            go_wp2_with (fail)
            refine ⟨⟨i + 1, by omega, by go_num, HW1, Lib.hid (fun j hj => ?_)⟩, by simp only [intOf]; omega⟩
            have := HI0.out
            obtain rfl : j = i := by omega
            exact ⟨by rw [HX.out.1]; exact HX.out.2, fun hj0 => by omega⟩
          · obtain ⟨iP, hiP⟩ : ∃ q, q = i - 1 := ⟨_, rfl⟩
            have ec : ((i : Int) - 1).toNat = iP := by omega
            have pc : (0 : Int) ≤ (i : Int) - 1 := by omega
            have pd' : (1 : Int) ≤ (i : Int) := by omega
            have bc : (i : Int) - 1 < (n : Int) := by omega
            have rc : IntKind.i64.wrap ((i : Int) - 1) = (i : Int) - 1 := by rw [IntKind.wrap_i64]; omega
            have g3 : decide (0 < i) = true := decide_eq_true (by omega)
            have g4 : decide ((i : Int) > 0) = true := decide_eq_true (by omega)
            have g5 : (0 : Int) < (i : Int) := by omega
            have g6 : 0 < i := by omega
            have hy0 := HAT.out iP (by omega)
            obtain ⟨y, hy⟩ : ∃ y, (L.getD iP noInst).id = y := ⟨_, rfl⟩
            have q1 : ∀ m os, (Go.Sort.grow (wr.drewN m) os).cell? (ad.add (iP * 12)) = some (.int .u64 y) := fun m os => by have := hy0 m os 0 (.int .u64 (L.getD iP noInst).id) rfl; rw [add_zero', hy] at this; exact this
            have HY := Lib.hid (And.intro hy hiP)
            clear hy0 hy hiP hi0
            by_cases hq : i0 ≤ y
            · have d1 : decide (i0 ≤ y) = true := decide_eq_true hq
              go_wp2_with (fail)
              refine Go.wp_region_quiet_grown (by assumption) (by kernel_rfl) ?_
              repeat (go_big_quiet_step (fail))
              refine wpQuiet_load (by rfl) 41 _ rfl (ad.add (i * 12)) rfl (.agg #[.int .u64 i0, .int .u64 i1, .int .i64 i2, .int .i64 i3, .bool i4, .int .u8 i5, .int .u64 i6, .bool i7, .int .u64 i8, .bool i9, .bool i10, .int .u32 i11]) (by rintro _ ⟨p, rfl⟩; exact ldx p.n p.os) ?_
              quiet_step (first | (go_at_call 27; exact Go.Calls.grown_of (Grw.quiet (K.out _))))
              repeat (go_big_quiet_step (fail))
              refine wpQuiet_nil ?_
              intro _ hw'
              obtain ⟨⟨nq, osq⟩, hw''⟩ := hw'
              subst hw''
              have HW1 := Lib.hid (below_step HB.out (growB wr nq osq))
              go_wp2_with (fail)
              go_ret
              refine ⟨.f rfl (fun hM => ?_), HW1.out⟩
              obtain ⟨_, m2⟩ := hM.2 i (by rw [HL.out]; exact hlt)
              have m3 := m2 g6
              obtain ⟨hy, hiP⟩ := HY.out
              rw [HX.out.1, show i - 1 = iP from hiP.symm, hy] at m3
              simp only at m3
              omega
            · have d1 : decide (i0 ≤ y) = false := decide_eq_false hq
              go_wp2_with (fail)
              refine Go.wp_region_quiet_grown (by assumption) (by kernel_rfl) ?_
              repeat (go_big_quiet_step (fail))
              refine wpQuiet_load (by rfl) 41 _ rfl (ad.add (i * 12)) rfl (.agg #[.int .u64 i0, .int .u64 i1, .int .i64 i2, .int .i64 i3, .bool i4, .int .u8 i5, .int .u64 i6, .bool i7, .int .u64 i8, .bool i9, .bool i10, .int .u32 i11]) (by rintro _ ⟨p, rfl⟩; exact ldx p.n p.os) ?_
              quiet_step (first | (go_at_call 27; exact Go.Calls.grown_of (Grw.quiet (K.out _))))
              repeat (go_big_quiet_step (fail))
              refine wpQuiet_nil ?_
              intro _ hw'
              obtain ⟨⟨nq, osq⟩, hw''⟩ := hw'
              subst hw''
              have HW1 := Lib.hid (below_step HB.out (growB wr nq osq))
              go_wp2_with (fail)
              refine ⟨⟨i + 1, by omega, by go_num, HW1, Lib.hid (fun j hj => ?_)⟩, by simp only [intOf]; omega⟩
              rcases Nat.lt_or_eq_of_le (Nat.le_of_lt_succ hj) with z | z
              · exact HD.out j z
              · subst z
                obtain ⟨hy, hiP⟩ := HY.out
                refine ⟨by rw [HX.out.1]; exact HX.out.2, fun hj0 => ?_⟩
                rw [HX.out.1, show j - 1 = iP from hiP.symm, hy]
                show y < i0
                omega
      · have hin : i = n := by omega
        subst hin
        go_wp2_with (fail)
        go_ret
        exact ⟨.t rfl ⟨by rw [HL.out]; omega, fun j hj => HD.out j (by rw [HL.out] at hj; exact hj)⟩, HB.out⟩
end Go.Proofs.Ytnlcpgeapgnkgaa.H
