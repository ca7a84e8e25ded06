/- recon's law: 'lives' answers true. -/
import Derived.Test.YtaoflcmjmhfblaaRc5
namespace Go.Proofs.Ytaoflcmjmhfblaa.C
open Go.RowKit Go.Proofs.YtaoflcmjmhfblaaW.PrintWords Go.Proofs.YtaoflcmjmhfblaaW.PrintLast Go.Proofs.YtaoflcmjmhfblaaW.PrintMore Go.Proofs.Ytaoflcmjmhfblaa.H
set_option linter.unusedVariables false
set_option linter.unusedSimpArgs false
theorem mayT_nil : MayT [] := fun i h => absurd h (Nat.not_lt_zero _)
theorem mayL_nil : MayL [] := ⟨by decide, fun i h => absurd h (Nat.not_lt_zero _)⟩
theorem wf_nil : wfT [] := fun i h => absurd h (Nat.not_lt_zero _)
theorem mayT_one {t : TolV} (h : (decide (t.id ≤ 4611686018427387904 ∧ 1 ≤ t.token ∧ t.token ≤ 4611686018427387904 ∧ 1 ≤ t.state ∧ t.state ≤ 3) && decide (1 ≤ t.id)) = true) : MayT [t] := by
  rw [Bool.and_eq_true, decide_eq_true_eq, decide_eq_true_eq] at h
  intro i hi
  obtain rfl : i = 0 := by simpa using hi
  exact ⟨h.1, h.2, fun h => absurd h (Nat.not_lt_zero _)⟩
theorem mayL_one {i : InV} (h : instMay i = true) : MayL [i] := by
  refine ⟨by show 1 ≤ 4096; omega, fun k hk => ?_⟩
  obtain rfl : k = 0 := by simpa using hk
  exact ⟨h, fun h => absurd h (Nat.not_lt_zero _)⟩
theorem wf_one {a b c : Nat} : wfT [⟨a, b, c⟩] := by
  intro i hi
  obtain rfl : i = 0 := by simpa using hi
  exact ⟨Int.natCast_nonneg _, Int.natCast_nonneg _, Int.natCast_nonneg _⟩
theorem ev_one {w : World} {g : Nat} {e : EvV} {T : TypeId} (h : w.heap[g]? = some (.cells e.cells T (0, 0))) : kEv.C w (some ⟨g, 0, none⟩) 1 [e] := C_one h rfl rfl
theorem ev_two {w : World} {g : Nat} {e f : EvV} {T : TypeId} (h : w.heap[g]? = some (.cells (e.cells ++ f.cells) T (0, 0))) : kEv.C w (some ⟨g, 0, none⟩) 2 [e, f] := by
  refine C_box h rfl (by decide) (fun j p hp => ?_)
  match j, hp with
  | 0, hp =>
    obtain rfl := Option.some.inj hp
    exact ⟨e.cells.toList, rfl, rfl, fun i u hu => by
      have hi : i < 28 := by
        have := (List.getElem?_eq_some_iff.1 hu).1
        exact this
      show (e.cells ++ f.cells)[0 * 28 + i]? = some u
      rw [Nat.zero_mul, Nat.zero_add, Array.getElem?_append_left (by exact hi)]
      simpa using hu⟩
  | 1, hp =>
    obtain rfl := Option.some.inj hp
    exact ⟨f.cells.toList, rfl, rfl, fun i u hu => by
      show (e.cells ++ f.cells)[1 * 28 + i]? = some u
      rw [Array.getElem?_append_right (by show 28 ≤ _; omega)]
      have hz : e.cells.size = 28 := rfl
      rw [hz, Nat.one_mul, Nat.add_sub_cancel_left]
      simpa using hu⟩
  | j + 2, hp => simp at hp
theorem l1_calls (W : World) (g h : Nat) (hg : W.heap[g]? = some (.cells #[.int .u64 1, .int .u64 5, .int .u8 2] 45 (0, 0))) : Calls Try.prog 16 #[.slice (some ⟨g, 0, none⟩) 1 1, .slice none 0 0] W fun e w' => ∃ A c, e = .returned (.tuple #[.slice A 2 c, .int .i64 0]) ∧ kEv.C w' A 2 ([⟨10, 5, 1⟩, ⟨12, 0, 1⟩] : List EvV) ∧ Below W.heap.size W w' := by
  refine (events_calls 1 0 (T := [⟨1, 5, 2⟩]) (L := []) W (C_one (cs := #[.int .u64 1, .int .u64 5, .int .u8 2]) hg rfl ⟨_, _, rfl, rfl, _, _, rfl, rfl, rfl⟩) (Kd.C_nil _ _) wf_one (by decide)).mono ?_
  rintro e w' ⟨v, code, rfl, hE, hb⟩
  obtain ⟨rfl, hR⟩ := hE.1 ⟨(mayT_one rfl), mayL_nil⟩
  obtain ⟨A, c, rfl, _, hC⟩ := Kd.R_reads hR
  exact ⟨A, c, rfl, hC, hb⟩
theorem l2_calls (W : World) (g h : Nat) (hg : W.heap[g]? = some (.cells #[.int .u64 1, .int .u64 5, .int .u8 2] 45 (0, 0))) (hh : W.heap[h]? = some (.cells #[.int .u64 1, .int .u64 5, .int .i64 0, .int .i64 1, .bool false, .int .u8 3, .int .u64 0, .bool false, .int .u64 0, .bool false, .bool false, .int .u32 0] 34 (0, 0))) : Calls Try.prog 16 #[.slice (some ⟨g, 0, none⟩) 1 1, .slice (some ⟨h, 0, none⟩) 1 1] W fun e w' => ∃ A c, e = .returned (.tuple #[.slice A 0 c, .int .i64 0]) ∧ kEv.C w' A 0 ([] : List EvV) ∧ Below W.heap.size W w' := by
  refine (events_calls 1 1 (T := [⟨1, 5, 2⟩]) (L := [⟨1, 5, 0, 1, false, 3, 0, false, 0, false, false, 0⟩]) W (C_one (cs := #[.int .u64 1, .int .u64 5, .int .u8 2]) hg rfl ⟨_, _, rfl, rfl, _, _, rfl, rfl, rfl⟩) (C_one (cs := #[.int .u64 1, .int .u64 5, .int .i64 0, .int .i64 1, .bool false, .int .u8 3, .int .u64 0, .bool false, .int .u64 0, .bool false, .bool false, .int .u32 0]) hh rfl ⟨_, _, rfl, rfl, _, _, rfl, rfl, _, _, rfl, rfl, _, _, rfl, rfl, _, _, rfl, rfl, _, _, rfl, rfl, _, _, rfl, rfl, _, _, rfl, rfl, _, _, rfl, rfl, _, _, rfl, rfl, _, _, rfl, rfl, rfl⟩) wf_one (by decide)).mono ?_
  rintro e w' ⟨v, code, rfl, hE, hb⟩
  obtain ⟨rfl, hR⟩ := hE.1 ⟨(mayT_one rfl), (mayL_one rfl)⟩
  obtain ⟨A, c, rfl, _, hC⟩ := Kd.R_reads hR
  exact ⟨A, c, rfl, hC, hb⟩
theorem l3_calls (W : World) (g h : Nat) (hh : W.heap[h]? = some (.cells #[.int .u64 1, .int .u64 0, .int .i64 0, .int .i64 1, .bool false, .int .u8 3, .int .u64 0, .bool false, .int .u64 0, .bool false, .bool false, .int .u32 0] 34 (0, 0))) : Calls Try.prog 16 #[.slice none 0 0, .slice (some ⟨h, 0, none⟩) 1 1] W fun e w' => ∃ A c, e = .returned (.tuple #[.slice A 1 c, .int .i64 0]) ∧ kEv.C w' A 1 ([⟨15, 0, 1⟩] : List EvV) ∧ Below W.heap.size W w' := by
  refine (events_calls 0 1 (T := []) (L := [⟨1, 0, 0, 1, false, 3, 0, false, 0, false, false, 0⟩]) W (Kd.C_nil _ _) (C_one (cs := #[.int .u64 1, .int .u64 0, .int .i64 0, .int .i64 1, .bool false, .int .u8 3, .int .u64 0, .bool false, .int .u64 0, .bool false, .bool false, .int .u32 0]) hh rfl ⟨_, _, rfl, rfl, _, _, rfl, rfl, _, _, rfl, rfl, _, _, rfl, rfl, _, _, rfl, rfl, _, _, rfl, rfl, _, _, rfl, rfl, _, _, rfl, rfl, _, _, rfl, rfl, _, _, rfl, rfl, _, _, rfl, rfl, rfl⟩) wf_nil (by decide)).mono ?_
  rintro e w' ⟨v, code, rfl, hE, hb⟩
  obtain ⟨rfl, hR⟩ := hE.1 ⟨mayT_nil, (mayL_one rfl)⟩
  obtain ⟨A, c, rfl, _, hC⟩ := Kd.R_reads hR
  exact ⟨A, c, rfl, hC, hb⟩
theorem l4_calls (W : World) (g h : Nat) (hg : W.heap[g]? = some (.cells #[.int .u64 1, .int .u64 5, .int .u8 3] 45 (0, 0))) (hh : W.heap[h]? = some (.cells #[.int .u64 1, .int .u64 0, .int .i64 0, .int .i64 1, .bool false, .int .u8 7, .int .u64 0, .bool false, .int .u64 0, .bool false, .bool false, .int .u32 0] 34 (0, 0))) : Calls Try.prog 16 #[.slice (some ⟨g, 0, none⟩) 1 1, .slice (some ⟨h, 0, none⟩) 1 1] W fun e w' => ∃ A c, e = .returned (.tuple #[.slice A 1 c, .int .i64 0]) ∧ kEv.C w' A 1 ([⟨16, 0, 1⟩] : List EvV) ∧ Below W.heap.size W w' := by
  refine (events_calls 1 1 (T := [⟨1, 5, 3⟩]) (L := [⟨1, 0, 0, 1, false, 7, 0, false, 0, false, false, 0⟩]) W (C_one (cs := #[.int .u64 1, .int .u64 5, .int .u8 3]) hg rfl ⟨_, _, rfl, rfl, _, _, rfl, rfl, rfl⟩) (C_one (cs := #[.int .u64 1, .int .u64 0, .int .i64 0, .int .i64 1, .bool false, .int .u8 7, .int .u64 0, .bool false, .int .u64 0, .bool false, .bool false, .int .u32 0]) hh rfl ⟨_, _, rfl, rfl, _, _, rfl, rfl, _, _, rfl, rfl, _, _, rfl, rfl, _, _, rfl, rfl, _, _, rfl, rfl, _, _, rfl, rfl, _, _, rfl, rfl, _, _, rfl, rfl, _, _, rfl, rfl, _, _, rfl, rfl, rfl⟩) wf_one (by decide)).mono ?_
  rintro e w' ⟨v, code, rfl, hE, hb⟩
  obtain ⟨rfl, hR⟩ := hE.1 ⟨(mayT_one rfl), (mayL_one rfl)⟩
  obtain ⟨A, c, rfl, _, hC⟩ := Kd.R_reads hR
  exact ⟨A, c, rfl, hC, hb⟩
set_option maxHeartbeats 8000000 in
set_option maxRecDepth 100000 in
theorem lives_calls (w : World) : Calls Try.prog 15 #[] w fun e w' => e = .returned (.bool true) ∧ Below w.heap.size w w' := by
  go_enter Try.func15, Try.ntmps15
  go_wp2_with (first
    | (go_at_call 64; have hchk := MK6; refine (evs_calls _ _ _ (Kd.C_below HC4.out (below_step HV2.out (below_alloc (Below.refl _ _) _))) (ev_one (e := ⟨16, 0, 1⟩) (heap_alloc_new _ _))).mono ?_; rintro e wz ⟨rfl, hb⟩; have HBZ := Lib.hid (below_step HB6.out (below_step (below_alloc (Below.refl _ _) _) hb)); clear hb)
    | (go_at_call 64; have hchk := MK5; refine (evs_calls _ _ _ (Kd.C_below HC3.out (below_step HV1.out (below_alloc (Below.refl _ _) _))) (ev_one (e := ⟨15, 0, 1⟩) (heap_alloc_new _ _))).mono ?_; rintro e w6 ⟨rfl, hb⟩; have HB6 := Lib.hid (below_step HB5.out (below_step (below_alloc (Below.refl _ _) _) hb)); have HV2 := Lib.hid (below_step HV1.out (below_step (below_alloc (Below.refl _ _) _) hb)); have MK6 := True.intro; clear hb)
    | (go_at_call 64; have hchk := MK4; refine (evs_calls _ _ _ (Kd.C_below HC1.out (below_alloc (Below.refl _ _) _)) (ev_two (e := ⟨10, 5, 1⟩) (f := ⟨12, 0, 1⟩) (heap_alloc_new _ _))).mono ?_; rintro e w5 ⟨rfl, hb⟩; have HB5 := Lib.hid (below_step HB4.out (below_step (below_alloc (Below.refl _ _) _) hb)); have HV1 := Lib.hid (below_step (below_alloc (Below.refl w4.heap.size w4) _) hb); have MK5 := True.intro; clear hb)
    | (go_at_call 16; have hchk := MK3; refine (l4_calls _ _ _ ((Below.heap_alloc _ _ _ (by simp)).trans (heap_alloc_new _ _)) (by have h := heap_alloc_new (w3.alloc (.cells #[.int .u64 1, .int .u64 5, .int .u8 3] 45 (0, 0))) (.cells #[.int .u64 1, .int .u64 0, .int .i64 0, .int .i64 1, .bool false, .int .u8 7, .int .u64 0, .bool false, .int .u64 0, .bool false, .bool false, .int .u32 0] 34 (0, 0)); rw [World.size_alloc] at h; exact h)).mono ?_; rintro e w4 ⟨A4, c4, rfl, hC, hb⟩; have HC4 := Lib.hid hC; have hb2 := below_step (below_alloc (below_alloc (Below.refl w3.heap.size w3) _) _) hb; have HB4 := Lib.hid (below_step HB3.out hb2); have HC1 := Lib.hid (Kd.C_below HC1.out hb2); have HC3 := Lib.hid (Kd.C_below HC3.out hb2); have MK4 := True.intro; clear hb hb2 hC)
    | (go_at_call 16; have hchk := MK2; refine (l3_calls _ 0 _ (heap_alloc_new _ _)).mono ?_; rintro e w3 ⟨A3, c3, rfl, hC, hb⟩; have HC3 := Lib.hid hC; have hb2 := below_step (below_alloc (Below.refl w2.heap.size w2) _) hb; have HB3 := Lib.hid (below_step HB2.out hb2); have HC1 := Lib.hid (Kd.C_below HC1.out hb2); have MK3 := True.intro; clear hb hb2 hC)
    | (go_at_call 16; have hchk := MK1; refine (l2_calls _ _ _ ((Below.heap_alloc _ _ _ (blk_lt HT1.out)).trans HT1.out) (heap_alloc_new _ _)).mono ?_; rintro e w2 ⟨A2, c2, rfl, hC, hb⟩; have hb2 := below_step (below_alloc (Below.refl w1.heap.size w1) _) hb; have HB2 := Lib.hid (below_step HB1.out hb2); have HC1 := Lib.hid (Kd.C_below HC1.out hb2); have MK2 := True.intro; clear hb hb2 hC)
    | (go_at_call 16; refine (l1_calls _ _ 0 (heap_alloc_new _ _)).mono ?_; rintro e w1 ⟨A1, c1, rfl, hC, hb⟩; have HC1 := Lib.hid hC; have HB1 := Lib.hid (below_step (below_alloc (Below.refl w.heap.size w) _) hb); have HT1 := Lib.hid (blk_call hb (heap_alloc_new w (.cells #[.int .u64 1, .int .u64 5, .int .u8 2] 45 (0, 0)))); have MK1 := True.intro; clear hb hC))
  go_ret
  exact ⟨rfl, HBZ.out⟩
end Go.Proofs.Ytaoflcmjmhfblaa.C
