/- The walk of ExtraNothing. -/
import Derived.Test.YtnlcpgeapgnkgaaExtraP
namespace Go.Proofs.Ytnlcpgeapgnkgaa.H
open Go.RowKit Go.Proofs.YtnlcpgeapgnkgaaW.PrintWords Go.Proofs.YtnlcpgeapgnkgaaW.PrintLast Go.Proofs.YtnlcpgeapgnkgaaW.PrintMore
set_option linter.unusedVariables false
set_option linter.unusedSimpArgs false
theorem add_ne (p : Addr) (k : Nat) (hk : k ≠ 0) : p.add k = { block := p.block, off := p.off + k } := by
  unfold Addr.add
  simp [hk]
theorem RetB.b {e : Ending} {P : Prop} (h : RetB e P) (hp : P) : e = .returned (.bool true) := by
  obtain ⟨b, rfl, hb⟩ := h
  rw [hb.2 hp]
theorem RetB.n {e : Ending} {P : Prop} (h : RetB e P) (hp : ¬ P) : e = .returned (.bool false) := by
  obtain ⟨b, rfl, hb⟩ := h
  cases b with
  | false => rfl
  | true => exact absurd (hb.1 rfl) hp
set_option maxHeartbeats 4000000 in
set_option maxRecDepth 100000 in
theorem nothing_big {cs : Array Value} {s : StV} (hF : StF cs s) (L : List InV) (w : World) (hL : kInst.C w s.ia s.ilen L) (hg : (decide (300 < s.ilen) || decide (300 < s.olen)) = true) :
    Calls Try.prog 4 #[.agg cs] w fun e w' => e = .returned (.bool true) ∧ Below w.heap.size w w' := by
  have hz := hF.size
  have vi := hF.insts
  have vd := hF.desired
  have KG := Lib.hid (fun W => great_calls hF W)
  have HF := Lib.hid hF
  have HB0 := Lib.hid (Boxd.new w 36 cs)
  have HW0 := Lib.hid ((Below.refl w.heap.size w).alloc (Nat.le_refl _) (.cells cs 36))
  have HL := Lib.hid hL
  have HZ := Lib.hid hz
  have VI := Lib.hid vi
  have VD := Lib.hid vd
  have mixed : Try.prog.follows .mixedOrders = true := by kernel_rfl
  rw [hg] at KG
  clear hz vi vd hF hL hg
  go_enter Try.func4, Try.ntmps4
  go_wp2_with (first
    | ((with_reducible refine gate_load 36 rfl ?_); refine wpList_load_row rfl 36 _ rfl _ rfl 36 _ _ _ HB0.out Try.underlying36 rfl (by rw [HZ.out]; kernel_rfl) ?_)
    | (go_at_call 9; refine (KG.out _).mono ?_; rintro e w1 ⟨rfl, hg⟩; have HW1 := Lib.hid (below_step HW0.out hg.below); clear hg)
    | (go_at_call 11; refine (lives25 _).mono ?_; rintro e w9 ⟨rfl, hw⟩; have HW9 := Lib.hid (below_step HW1.out hw); clear hw))
  go_ret
  exact ⟨rfl, HW9.out⟩
set_option maxHeartbeats 8000000 in
set_option maxRecDepth 100000 in
theorem nothing_core {cs : Array Value} {s : StV} (hF : StF cs s) (L : List InV) (w : World) (hL : kInst.C w s.ia s.ilen L) (hg : (decide (300 < s.ilen) || decide (300 < s.olen)) = false) (nV cV : Int)
    (ko : ∀ W, Below w.heap.size w W → Calls Try.prog 13 #[.agg cs] W fun e w' => e = .returned (.int .i64 nV) ∧ Below W.heap.size W w')
    (kc : ∀ W, Below w.heap.size w W → Calls Try.prog 15 #[.agg cs] W fun e w' => e = .returned (.int .i64 cV) ∧ Below W.heap.size W w')
    (h0 : 0 ≤ nV) (hg1 : MayL L → nV ≤ (wgh (gv s) L).1) (hg2 : ¬ MayL L → nV = 0)
    (hc : (cV = 0 ∧ nV = 0) ∨ (100 ≤ cV ∧ s.desired + nV ≤ cV ∧ 0 ≤ s.desired ∧ s.desired ≤ 65536 ∧ nV ≤ 1000000)) :
    Calls Try.prog 4 #[.agg cs] w fun e w' => e = .returned (.bool true) ∧ Below w.heap.size w w' := by
  have hl := hL.1
  have hm := Kd.C_max hL
  have hz := hF.size
  have vi := hF.insts
  have vd := hF.desired
  have KG := Lib.hid (fun W => great_calls hF W)
  have HF := Lib.hid hF
  have HB0 := Lib.hid (Boxd.new w 36 cs)
  have HW0 := Lib.hid ((Below.refl w.heap.size w).alloc (Nat.le_refl _) (.cells cs 36))
  have HL := Lib.hid hL
  have HZ := Lib.hid hz
  have VI := Lib.hid vi
  have VD := Lib.hid vd
  have mixed : Try.prog.follows .mixedOrders = true := by kernel_rfl
  rw [hg] at KG
  have hlen : s.ilen ≤ 300 := by
    simp only [Bool.or_eq_false_iff, decide_eq_false_iff_not] at hg
    omega
  have KO := Lib.hid ko
  have KC := Lib.hid kc
  have KGV := Lib.hid (fun x W => gives_calls hF x W)
  have HN := Lib.hid hl
  clear hz hF hg ko kc
  obtain ⟨A, hA⟩ : ∃ A, s.ia = A := ⟨_, rfl⟩
  obtain ⟨n, hn⟩ : ∃ n, s.ilen = n := ⟨_, rfl⟩
  obtain ⟨c, hcc⟩ : ∃ c, s.ic = c := ⟨_, rfl⟩
  obtain ⟨dV, hd⟩ : ∃ d, s.desired = d := ⟨_, rfl⟩
  rw [hA, hn, hcc] at VI
  rw [hA, hn] at HL
  rw [hn] at HN hlen hm
  rw [hd] at VD hc
  clear vi vd hL hl hA hn hcc hd
  by_cases hML : MayL L
  · have hg1 := hg1 hML
    have wall := wgh_bound (gv s) L hML.weights
    have BND := Lib.hid wall
    have WBD := Lib.hid hML.weights
    have HM := Lib.hid hML
    clear hg2 hML wall
    rcases hc with ⟨rfl, rfl⟩ | ⟨y1, y2, y3, y4, y5⟩
    all_goals
      go_enter Try.func4, Try.ntmps4
      go_wp2_with (first
        | ((with_reducible refine gate_load 36 rfl ?_); refine wpList_load_row rfl 36 _ rfl _ rfl 36 _ _ _ (by first | exact HB0.out | exact HB1.out) Try.underlying36 rfl (by rw [HZ.out]; kernel_rfl) ?_)
        | (go_at_call 9; refine (KG.out _).mono ?_; rintro e w1 ⟨rfl, hg⟩; have HB1 := Lib.hid (HB0.out.below hg.below); have HW1 := Lib.hid (below_step HW0.out hg.below); clear hg)
        | (go_at_call 13; refine (KO.out _ HW1.out).mono ?_; rintro e w2 ⟨rfl, hw⟩; have HB2 := Lib.hid (HB1.out.below hw); have HW2 := Lib.hid (below_step HW1.out hw); clear hw))
      obtain ⟨gb, hgb⟩ : ∃ g, g = w.heap.size := ⟨_, rfl⟩
      rw [← hgb] at HB2 ⊢
      have HGB := Lib.hid hgb
      clear hgb HB0 HB1
      go_loopw [4, 5] (fun u4 u5 wr => ∃ (i : Nat), i ≤ n ∧ u5 = .int .i64 i ∧ u4 = .int .i64 (wgh (gv s) (L.take i)).1 ∧ Hid (Below w2.heap.size w2 wr)) (fun _ u5 _ => n - (intOf u5).toNat)
      case atStart => exact ⟨0, by omega, rfl, rfl, Lib.hid (Below.refl _ _)⟩
      case round =>
        obtain ⟨i, hi, rfl, rfl, HB⟩ := hrel
        by_cases hlt : i < n
        · obtain ⟨ad, ea, _⟩ := inst_at (Kd.C_below (Kd.C_below HL.out HW2.out) HB.out) i hlt
          subst ea
          have cI := Kd.C_below (Kd.C_below HL.out HW2.out) HB.out
          have s46 := (HB2.out.below HB.out).cell VI.out
          have CI := Lib.hid cI
          clear cI
          go_wp2_with (first
            | (go_at_call 10; refine (rsumsMay_calls _ c n L _ CI.out).mono ?_; rintro e w3 ⟨hr, hw⟩; obtain rfl := hr.b HM.out; have HB3 := Lib.hid (HB2.out.below (below_step HB.out hw)); have HW3 := Lib.hid (below_step HB.out hw); clear hw hr))
          have hat : ∀ W, Below w3.heap.size w3 W → ∀ j v, (L.getD i noInst).cells.toList[j]? = some v → W.cell? ((ad.add (i * 12)).add j) = some v := by
            intro W hW
            obtain ⟨ad', ea', hc⟩ := inst_at (Kd.C_below (Kd.C_below (Kd.C_below HL.out HW2.out) HW3.out) hW) i hlt
            cases ea'
            exact hc
          have hst := wgh_succ (gv s) L i (by rw [HN.out]; exact hlt)
          have wbd := WBD.out i (by rw [HN.out]; exact hlt)
          obtain ⟨⟨b1, b2⟩, _⟩ := BND.out i (by rw [HN.out]; omega)
          obtain ⟨p1, hp1⟩ : ∃ p, (wgh (gv s) (L.take i)).1 = p := ⟨_, rfl⟩
          rw [hp1] at b1 b2 ⊢
          have HP1 := Lib.hid hp1
          obtain ⟨x, hx⟩ : ∃ x, L.getD i noInst = x := ⟨_, rfl⟩
          rw [hx] at hat hst wbd
          have KV := fun W => KGV.out x W
          obtain ⟨r, hr⟩ : ∃ r, (old s x || risky s x) = r := ⟨_, rfl⟩
          have hgr : gv s x = r := hr
          unfold wstep at hst
          rw [hgr] at hst
          rw [hr] at KV
          clear hp1 hx hr hgr
          obtain ⟨i0, i1, i2, i3, i4, i5, i6, i7, i8, i9, i10, i11⟩ := x
          simp only [InV.val, InV.cells] at KV
          have wbd : 1 ≤ i3 ∧ i3 ≤ 100 := wbd
          have hst : wgh (gv s) (L.take (i + 1)) = if (i5 == 3) && r then ((wgh (gv s) (L.take i)).1 + i3, max (wgh (gv s) (L.take i)).2 i3) else wgh (gv s) (L.take i) := hst
          have hat : ∀ W, Below w3.heap.size w3 W → ∀ j v, ([.int .u64 i0, .int .u64 i1, .int .i64 i2, .int .i64 i3, .bool i4, .int .u8 i5, .int .u64 i6, .bool i7, .int .u64 i8, .bool i9, .bool i10, .int .u32 i11] : List Value)[j]? = some v → W.cell? ((ad.add (i * 12)).add j) = some v := hat
          have lds : ∀ m os, (Instr.loadAt 36 (.pointer (some ⟨gb, 0, none⟩))).run Try.prog (Go.Sort.grow (w3.drewN m) os) = .ok (.agg cs) (Go.Sort.grow (w3.drewN m) os) := fun m os => (HB3.out.below (growB w3 m os)).load Try.underlying36 rfl (by rw [HZ.out]; kernel_rfl)
          have s46b : ∀ m os, (Go.Sort.grow (w3.drewN m) os).cell? { block := gb, off := 46 } = some (.slice (some ad) n c) := fun m os => (HB3.out.below (growB w3 m os)).cell VI.out
          have ldx : ∀ m os, (Instr.loadAt 41 (.pointer (some (ad.add (i * 12))))).run Try.prog (Go.Sort.grow (w3.drewN m) os) = .ok (.agg #[.int .u64 i0, .int .u64 i1, .int .i64 i2, .int .i64 i3, .bool i4, .int .u8 i5, .int .u64 i6, .bool i7, .int .u64 i8, .bool i9, .bool i10, .int .u32 i11]) (Go.Sort.grow (w3.drewN m) os) := fun m os =>
            run_load_any 41 _ [.int .u64 i0, .int .u64 i1, .int .i64 i2, .int .i64 i3, .bool i4, .int .u8 i5, .int .u64 i6, .bool i7, .int .u64 i8, .bool i9, .bool i10, .int .u32 i11] _ (hat _ (growB w3 m os)) Try.underlying41 rfl (by kernel_rfl)
          have q5 : ∀ m os, (Go.Sort.grow (w3.drewN m) os).cell? ((ad.add (i * 12)).add 5) = some (.int .u8 i5) := fun m os => hat _ (growB w3 m os) 5 _ rfl
          have q5' : ∀ m os, (Go.Sort.grow (w3.drewN m) os).cell? { block := (ad.add (i * 12)).block, off := (ad.add (i * 12)).off + 5 } = some (.int .u8 i5) := fun m os => by rw [← add_ne (ad.add (i * 12)) 5 (by omega)]; exact q5 m os
          have HST := Lib.hid hst
          have HAT := Lib.hid hat
          have KV := Lib.hid KV
          clear hst hat
          obtain ⟨sv, hsv⟩ : ∃ b, (i5 == 3) = b := ⟨_, rfl⟩
          have HSV := Lib.hid hsv
          cases sv with
          | false =>
            refine Go.wp_region_quiet_grown (by assumption) (by kernel_rfl) ?_
            repeat (go_big_quiet_step (fail))
            refine wpQuiet_nil ?_
            intro _ hw'
            obtain ⟨⟨nq, osq⟩, hw''⟩ := hw'
            subst hw''
            have HW5 := Lib.hid (below_step HW3.out (growB w3 nq osq))
            go_wp2_with (fail)
            exact ⟨⟨i + 1, by omega, by go_num, by rw [HST.out, HSV.out]; exact congrArg (Value.int .i64) HP1.out.symm, HW5⟩, by simp only [intOf]; omega⟩
          | true =>
            cases r with
            | false =>
              refine Go.wp_region_quiet_grown (by assumption) (by kernel_rfl) ?_
              repeat (go_big_quiet_step (fail))
              refine wpQuiet_load (by rfl) 36 _ rfl ⟨gb, 0, none⟩ rfl (.agg cs) (by rintro _ ⟨p, rfl⟩; exact lds p.n p.os) ?_
              quiet_step (fail)
              repeat (go_big_quiet_step (fail))
              refine wpQuiet_load (by rfl) 41 _ rfl (ad.add (i * 12)) rfl (.agg #[.int .u64 i0, .int .u64 i1, .int .i64 i2, .int .i64 i3, .bool i4, .int .u8 i5, .int .u64 i6, .bool i7, .int .u64 i8, .bool i9, .bool i10, .int .u32 i11]) (by rintro _ ⟨p, rfl⟩; exact ldx p.n p.os) ?_
              quiet_step (first | (go_at_call 14; exact Go.Calls.grown_of (Grw.quiet (KV.out _))))
              repeat (go_big_quiet_step (fail))
              refine wpQuiet_nil ?_
              intro _ hw'
              obtain ⟨⟨nq, osq⟩, hw''⟩ := hw'
              subst hw''
              have HW5 := Lib.hid (below_step HW3.out (growB w3 nq osq))
              go_wp2_with (fail)
              exact ⟨⟨i + 1, by omega, by go_num, by rw [HST.out, HSV.out]; exact congrArg (Value.int .i64) HP1.out.symm, HW5⟩, by simp only [intOf]; omega⟩
            | true =>
              refine Go.wp_region_quiet_grown (by assumption) (by kernel_rfl) ?_
              repeat (go_big_quiet_step (fail))
              refine wpQuiet_load (by rfl) 36 _ rfl ⟨gb, 0, none⟩ rfl (.agg cs) (by rintro _ ⟨p, rfl⟩; exact lds p.n p.os) ?_
              quiet_step (fail)
              repeat (go_big_quiet_step (fail))
              refine wpQuiet_load (by rfl) 41 _ rfl (ad.add (i * 12)) rfl (.agg #[.int .u64 i0, .int .u64 i1, .int .i64 i2, .int .i64 i3, .bool i4, .int .u8 i5, .int .u64 i6, .bool i7, .int .u64 i8, .bool i9, .bool i10, .int .u32 i11]) (by rintro _ ⟨p, rfl⟩; exact ldx p.n p.os) ?_
              quiet_step (first | (go_at_call 14; exact Go.Calls.grown_of (Grw.quiet (KV.out _))))
              repeat (go_big_quiet_step (fail))
              refine wpQuiet_nil ?_
              intro _ hw'
              obtain ⟨⟨nq, osq⟩, hw''⟩ := hw'
              subst hw''
              have HW5 := Lib.hid (below_step HW3.out (growB w3 nq osq))
              have c46 := s46b nq osq
              have c3 := HAT.out _ (growB w3 nq osq) 3 _ rfl
              have c3' : (Go.Sort.grow (w3.drewN nq) osq).cell? { block := (ad.add (i * 12)).block, off := (ad.add (i * 12)).off + 3 } = some (.int .i64 i3) := by rw [← add_ne (ad.add (i * 12)) 3 (by omega)]; exact c3
              go_wp2_with (fail)
              exact ⟨⟨i + 1, by omega, by go_num, by rw [HST.out, HSV.out]; exact congrArg (Value.int .i64) (by show p1 + i3 = (wgh (gv s) (L.take i)).1 + i3; rw [HP1.out]), HW5⟩, by simp only [intOf]; omega⟩
        · have hin : i = n := by omega
          subst hin
          have e0 : L.take i = L := List.take_of_length_le (by rw [HN.out]; omega)
          have HBE := Lib.hid (HB2.out.below HB.out)
          have HWE := Lib.hid (below_step HW2.out HB.out)
          have s46 := HBE.out.cell VI.out
          rw [e0]
          obtain ⟨g, hgg⟩ : ∃ g, (wgh (gv s) L).1 = g := ⟨_, rfl⟩
          rw [hgg] at hg1 ⊢
          clear e0 hgg
          go_wp2_with (first
            | ((with_reducible refine gate_load 36 rfl ?_); refine wpList_load_row rfl 36 _ rfl _ rfl 36 _ _ _ HBE.out Try.underlying36 rfl (by rw [HZ.out]; kernel_rfl) ?_)
            | (go_at_call 15; refine (KC.out _ HWE.out).mono ?_; rintro e w8 ⟨rfl, hw⟩; have HW8 := Lib.hid (below_step HWE.out hw); have c42 := (HBE.out.below hw).cell VD.out; clear hw)
            | (go_at_call 11; refine (lives25 _).mono ?_; rintro e w9 ⟨rfl, hw⟩; have HW9 := Lib.hid (below_step HW8.out hw); clear hw))
          all_goals first
            | (exfalso; omega)
            | (go_ret; exact ⟨rfl, HW9.out⟩)
  · have hn0 := hg2 hML
    subst hn0
    have HM := Lib.hid hML
    have hnp : 0 < n := by
      rcases Nat.eq_zero_or_pos n with q | q
      · exfalso
        have e := HN.out
        rw [q] at e
        exact HM.out ⟨by rw [e]; omega, fun i hi => absurd hi (by rw [e]; omega)⟩
      · exact q
    clear hg1 hg2 hML
    rcases hc with ⟨rfl, hc0⟩ | ⟨y1, y2, y3, y4, y5⟩
    all_goals
      go_enter Try.func4, Try.ntmps4
      go_wp2_with (first
        | ((with_reducible refine gate_load 36 rfl ?_); refine wpList_load_row rfl 36 _ rfl _ rfl 36 _ _ _ (by first | exact HB0.out | exact HB1.out) Try.underlying36 rfl (by rw [HZ.out]; kernel_rfl) ?_)
        | (go_at_call 9; refine (KG.out _).mono ?_; rintro e w1 ⟨rfl, hg⟩; have HB1 := Lib.hid (HB0.out.below hg.below); have HW1 := Lib.hid (below_step HW0.out hg.below); clear hg)
        | (go_at_call 13; refine (KO.out _ HW1.out).mono ?_; rintro e w2 ⟨rfl, hw⟩; have HB2 := Lib.hid (HB1.out.below hw); have HW2 := Lib.hid (below_step HW1.out hw); clear hw))
      obtain ⟨gb, hgb⟩ : ∃ g, g = w.heap.size := ⟨_, rfl⟩
      rw [← hgb] at HB2 ⊢
      have HGB := Lib.hid hgb
      clear hgb HB0 HB1
      go_loopw [4, 5] (fun u4 u5 wr => u5 = .int .i64 0 ∧ u4 = .int .i64 0 ∧ Hid (Below w2.heap.size w2 wr)) (fun _ _ _ => 0)
      case atStart => exact ⟨rfl, rfl, Lib.hid (Below.refl _ _)⟩
      case round =>
        obtain ⟨rfl, rfl, HB⟩ := hrel
        obtain ⟨ad, ea, _⟩ := inst_at (Kd.C_below (Kd.C_below HL.out HW2.out) HB.out) 0 hnp
        subst ea
        have cI := Kd.C_below (Kd.C_below HL.out HW2.out) HB.out
        have s46 := (HB2.out.below HB.out).cell VI.out
        have CI := Lib.hid cI
        clear cI
        go_wp2_with (first
          | (go_at_call 10; refine (rsumsMay_calls _ c n L _ CI.out).mono ?_; rintro e w3 ⟨hr, hw⟩; obtain rfl := hr.n HM.out; have HB3 := Lib.hid (HB2.out.below (below_step HB.out hw)); have HWE := Lib.hid (below_step HW2.out (below_step HB.out hw)); clear hw hr)
          | ((with_reducible refine gate_load 36 rfl ?_); refine wpList_load_row rfl 36 _ rfl _ rfl 36 _ _ _ HB3.out Try.underlying36 rfl (by rw [HZ.out]; kernel_rfl) ?_)
          | (go_at_call 15; refine (KC.out _ HWE.out).mono ?_; rintro e w8 ⟨rfl, hw⟩; have HW8 := Lib.hid (below_step HWE.out hw); have c42 := (HB3.out.below hw).cell VD.out; clear hw)
          | (go_at_call 11; refine (lives25 _).mono ?_; rintro e w9 ⟨rfl, hw⟩; have HW9 := Lib.hid (below_step HW8.out hw); clear hw))
        all_goals first
          | (exfalso; omega)
          | (go_ret; exact ⟨rfl, HW9.out⟩)
end Go.Proofs.Ytnlcpgeapgnkgaa.H
