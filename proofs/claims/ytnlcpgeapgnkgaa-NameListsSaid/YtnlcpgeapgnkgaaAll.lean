/- name.All of the texts of 'lives', and its predicate. -/
import Derived.Test.YtnlcpgeapgnkgaaIs
import Derived.Maps.OwnOps
namespace Go.Proofs.Ytnlcpgeapgnkgaa.H
open Go.RowKit Go.Proofs.YtnlcpgeapgnkgaaW.PrintWords Go.Proofs.YtnlcpgeapgnkgaaW.PrintLast Go.Proofs.YtnlcpgeapgnkgaaW.PrintMore
set_option linter.unusedVariables false
set_option linter.unusedSimpArgs false

theorem not1_calls (s : ByteArray) (w : World) : Calls Try.prog 50 #[.string s] w fun e w' => e = .returned (.bool (!isL (strN s))) ∧ Below w.heap.size w w' := by
  obtain ⟨r, hr⟩ : ∃ r, isL (strN s) = r := ⟨_, rfl⟩
  have K := Lib.hid (is_calls s w)
  rw [hr] at K ⊢
  clear hr
  go_enter Try.func50, Try.ntmps50
  go_wp2_with (first | (go_at_call 16; refine K.out.mono ?_; rintro e w' ⟨rfl, hb⟩))
  go_ret
  exact ⟨rfl, hb⟩

set_option maxRecDepth 100000 in
theorem idxs_calls (A : Option Addr) (c n : Nat) (l : List ByteArray) (w : World) (h : Kd.C Kd.string w A n l) :
    Calls Try.prog 59 #[.slice A n c, .func (.func 50) #[] #[]] w fun e w' => ∃ r : Int, e = .returned (.int .i64 r) ∧ (0 ≤ r ↔ l.any (fun s => !isL (strN s)) = true) ∧ Below w.heap.size w w' := by
  have hl := h.1
  have hm := Kd.C_max h
  have H := Lib.hid h
  have HL := Lib.hid hl
  clear h hl
  go_enter Try.func59, Try.ntmps59
  go_wp2_with (fail)
  go_loopw [8] (fun v8 wr => ∃ i : Nat, i ≤ n ∧ v8 = .int .i64 i ∧ Hid ((l.take i).any (fun s => !isL (strN s)) = false) ∧ Hid (Below w.heap.size w wr)) (fun v8 _ => n - (intOf v8).toNat)
  case atStart => exact ⟨0, by omega, rfl, Lib.hid rfl, Lib.hid (Below.refl _ _)⟩
  case round =>
    obtain ⟨i, hi, rfl, HA, HW⟩ := hrel
    by_cases hlt : i < n
    · obtain ⟨ad, cs, rfl, h3, h4, h5⟩ := Kd.C_get (Kd.C_below H.out HW.out) ByteArray.empty (i : Int) (by omega) (by omega)
      obtain ⟨x, hx⟩ : ∃ x, l.getD i ByteArray.empty = x := ⟨_, rfl⟩
      have h4' : cs = [.string (l.getD i ByteArray.empty)] := h4
      rw [hx] at h4'
      subst h4'
      have h6 : wr.cell? (ad.add (i * 1 + 0)) = some (.string x) := h5 0 _ rfl
      rw [Nat.mul_one, Nat.add_zero] at h6
      have hil : i < l.length := by rw [HL.out]; exact hlt
      have hxe : l[i]? = some x := by rw [← hx]; simp [List.getD, hil]
      have K := Lib.hid (not1_calls x wr)
      have HX := Lib.hid hxe
      clear h3 h4 h5 hx hxe hil
      obtain ⟨q, hq⟩ : ∃ q, (!isL (strN x)) = q := ⟨_, rfl⟩
      rw [hq] at K
      have HQ := Lib.hid hq
      clear hq
      cases q
      · go_wp2_with (first | (go_at_call 50; refine K.out.mono ?_; rintro e w' ⟨rfl, hb⟩; have HB1 := Lib.hid hb; clear hb))
        exact ⟨⟨i + 1, by omega, by go_num, Lib.hid (by rw [List.take_add_one, HX.out, List.any_append, HA.out]; simpa using HQ.out), Lib.hid (below_step HW.out HB1.out)⟩, by simp only [intOf]; omega⟩
      · go_wp2_with (first | (go_at_call 50; refine K.out.mono ?_; rintro e w' ⟨rfl, hb⟩; have HB1 := Lib.hid hb; clear hb))
        go_ret
        exact ⟨_, rfl, ⟨fun _ => List.any_eq_true.2 ⟨x, List.mem_of_getElem? HX.out, HQ.out⟩, fun _ => by omega⟩, below_step HW.out HB1.out⟩
    · have : i = n := by omega
      subst this
      go_wp2_with (fail)
      go_ret
      refine ⟨_, rfl, ⟨fun h => absurd h (by omega), fun h => ?_⟩, HW.out⟩
      have := HA.out
      rw [List.take_of_length_le (by rw [HL.out]; omega)] at this
      rw [this] at h
      cases h
theorem hass_calls (A : Option Addr) (c n : Nat) (l : List ByteArray) (w : World) (h : Kd.C Kd.string w A n l) :
    Calls Try.prog 49 #[.slice A n c, .func (.func 50) #[] #[]] w fun e w' => e = .returned (.bool (l.any (fun s => !isL (strN s)))) ∧ Below w.heap.size w w' := by
  have K := Lib.hid (idxs_calls A c n l w h)
  obtain ⟨b, hb⟩ : ∃ b, (l.any (fun s => !isL (strN s))) = b := ⟨_, rfl⟩
  rw [hb] at K ⊢
  clear h hb
  go_enter Try.func49, Try.ntmps49
  go_wp2_with (first | (go_at_call 59; refine K.out.mono ?_; rintro e w' ⟨r, rfl, hr, hb⟩; have HB := Lib.hid hb; clear hb))
  go_ret
  exact ⟨ret_b (by cases b <;> simp_all), HB.out⟩

theorem keyLaw : Go.Maps.Keyed Try.prog 9 := Go.Maps.string_keyed Try.underlying9
theorem zeroI (w : World) : (zeroValue 3).run Try.prog w = .ok (.int .i64 0) w := by kernel_rfl
set_option maxRecDepth 100000 in
theorem all_lives (A : Option Addr) (c : Nat) (w : World) (h : Kd.C Kd.string w A 3 [⟨#[97]⟩, ⟨#[98]⟩, ⟨#[97]⟩]) :
    Calls Try.prog 23 #[.slice A 3 c] w fun e w' => e = .returned (.int .i64 8) ∧ Below w.heap.size w w' := by
  have K := Lib.hid (hass_calls A c 3 _ w h)
  rw [show ([⟨#[97]⟩, ⟨#[98]⟩, ⟨#[97]⟩] : List ByteArray).any (fun s => !isL (strN s)) = false by decide +kernel] at K
  have hmm := @run_makeMap Try.prog
  obtain ⟨ad, hA, hc⟩ := h.2.2 (by omega)
  subst hA
  have H := Lib.hid h
  go_enter Try.func23, Try.ntmps23
  go_wp2_with (first | (go_at_call 49; refine K.out.mono ?_; rintro e w1 ⟨rfl, hb⟩; have HB := Lib.hid hb; clear hb))
  have hcell : ∀ W : World, Below w.heap.size w W → W.cell? ad = some (.string ⟨#[97]⟩) ∧ W.cell? { block := ad.block, off := ad.off + 1 } = some (.string ⟨#[98]⟩) ∧ W.cell? { block := ad.block, off := ad.off + 2 } = some (.string ⟨#[97]⟩) := by
    intro W hW
    have h1 := Kd.C_below H.out hW
    exact ⟨Kd.foot_string h1 0 (by omega) (by omega), Kd.foot_string h1 1 (by omega) (by omega), Kd.foot_string h1 2 (by omega) (by omega)⟩
  have HC := Lib.hid hcell
  clear hcell hc h
  obtain ⟨e1, e2, e3⟩ := HC.out _ (HB.out.alloc HB.out.size (Obj.map #[] 0))
  have HO := Lib.hid (World.ownsMap_made (H := Unit) w1 Try.prog 9 (plainElem Try.prog 3))
  have HW := Lib.hid (HB.out.alloc HB.out.size (Obj.map #[] 0))
  refine wp_loop_rounds 4 ?_
  rw [rounds_succ]
  go_wp2_with (first
    | (at_lookup; refine wpList_lookup_own_int (H := Unit) _ rfl _ _ 75 rfl 9 3 .i64 keyLaw Try.underlying75 Try.underlying3 (zeroI _) w1.heap.size 0 _ rfl HO.out _ _ rfl (Go.WideMaps.keyOf_string_mk Try.underlying9 (by decide)) ?_; intro c hat hwc; obtain rfl : (0 : Int) = c := (by have h9 : (DataW.lit (Lit.int .i64 0) : DataW Unit) = .lit (.int .i64 c) := hat; injection h9 with h8; injection h8); clear hat hwc)
    | (at_mapUpdate; refine wpList_mapUpdate_own _ rfl _ _ _ 75 rfl 9 3 keyLaw Try.underlying75 _ w1.heap.size 0 _ rfl HO.out (by decide) _ _ _ rfl rfl (Go.WideMaps.keyOf_string_mk Try.underlying9 (by decide)) _ [] (plainElem_int Try.underlying3 (by decide)) ?_; intro w2 ho2 hg2; have HO1 := Lib.hid ho2; have HW1 := Lib.hid (HW.out.grown hg2 HW.out.size (fun j hj => by cases hj; exact HB.out.size)); clear ho2 hg2))
  obtain ⟨e1, e2, e3⟩ := HC.out _ HW1.out
  rw [rounds_succ]
  go_wp2_with (first
    | (at_lookup; refine wpList_lookup_own_int (H := Unit) _ rfl _ _ 75 rfl 9 3 .i64 keyLaw Try.underlying75 Try.underlying3 (zeroI _) w1.heap.size 1 _ rfl HO1.out _ _ rfl (Go.WideMaps.keyOf_string_mk Try.underlying9 (by decide)) ?_; intro c hat hwc; obtain rfl : (0 : Int) = c := (by have h9 : (DataW.lit (Lit.int .i64 0) : DataW Unit) = .lit (.int .i64 c) := hat; injection h9 with h8; injection h8); clear hat hwc)
    | (at_mapUpdate; refine wpList_mapUpdate_own _ rfl _ _ _ 75 rfl 9 3 keyLaw Try.underlying75 _ w1.heap.size 1 _ rfl HO1.out (by decide) _ _ _ rfl rfl (Go.WideMaps.keyOf_string_mk Try.underlying9 (by decide)) _ [] (plainElem_int Try.underlying3 (by decide)) ?_; intro w2 ho2 hg2; have HO2 := Lib.hid ho2; have HW2 := Lib.hid (HW1.out.grown hg2 HW1.out.size (fun j hj => by cases hj; exact HB.out.size)); clear ho2 hg2))
  obtain ⟨e1, e2, e3⟩ := HC.out _ HW2.out
  rw [rounds_succ]
  go_wp2_with (first
    | (at_lookup; refine wpList_lookup_own_int (H := Unit) _ rfl _ _ 75 rfl 9 3 .i64 keyLaw Try.underlying75 Try.underlying3 (zeroI _) w1.heap.size 2 _ rfl HO2.out _ _ rfl (Go.WideMaps.keyOf_string_mk Try.underlying9 (by decide)) ?_; intro c hat hwc; obtain rfl : (1 : Int) = c := (by have h9 : (DataW.lit (Lit.int .i64 1) : DataW Unit) = .lit (.int .i64 c) := hat; injection h9 with h8; injection h8); clear hat hwc)
    | fail)
  all_goals trace_state
  all_goals (go_ret; exact ⟨rfl, HW2.out⟩)
end Go.Proofs.Ytnlcpgeapgnkgaa.H
