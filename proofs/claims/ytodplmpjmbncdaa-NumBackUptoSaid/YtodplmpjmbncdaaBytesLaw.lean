/- The walk of the statement NumBytes. -/
import Derived.Test.YtodplmpjmbncdaaBytes
import Derived.Test.YtodplmpjmbncdaaRow
namespace Go.Proofs.Ytodplmpjmbncdaa.H
open Go.RowKit Go.Proofs.YtodplmpjmbncdaaW.PrintWords Go.Proofs.YtodplmpjmbncdaaW.PrintLast Go.Proofs.YtodplmpjmbncdaaW.PrintMore
set_option linter.unusedVariables false
set_option linter.unusedSimpArgs false

theorem opens_bytes : Opens Try.prog 60 (Kd.slice 5 (Kd.int .u8)) (fun l => l.length ≤ 9223372036854775807 ∧ l.length * 1 ≤ 140737488351232 ∧ ∀ x ∈ l, (Lit.int .u8 x).wf = true) :=
  Opens.slice Try.underlying60 (by kernel_rfl) (Opens.int Try.underlying5 (by kernel_rfl)) (by kernel_rfl)
theorem nput_calls (n size : Int) (h0 : 0 ≤ n) (h1 : n ≤ 18446744073709551615) (w : World) :
    Calls Try.prog 29 #[.int .u64 n, .int .i64 size] w fun e w' =>
      ∃ v, e = .returned (.tuple #[v, .int .i64 (putE n size)]) ∧ Kd.R (Kd.int .u8) 5 w' w.heap.size (fun _ => True) v (putL n size) ∧ Below w.heap.size w w' := by
  unfold putE putL
  rcases Bool.eq_false_or_eq_true (putOk n size) with h | h
  · rw [h]
    exact put_yes n size h0 h1 h w
  · rw [h]
    refine (put_no n size h0 h1 h w).mono ?_
    rintro e w' ⟨rfl, rfl⟩
    exact ⟨_, rfl, Kd.R_nil _ _ _ _ _, Below.refl _ _⟩
theorem putL_bytes (n size : Int) : Bytes (putL n size) := by
  unfold putL
  split
  · exact bytesLE_bytes _ _
  · intro x hx; cases hx
theorem same_same (A0 A1 : Option Addr) (c0 c1 : Nat) (l : List Int) (w : World) (h0 : Kd.C (Kd.int .u8) w A0 l.length l) (h1 : Kd.C (Kd.int .u8) w A1 l.length l) (b : Bytes l) :
    Calls Try.prog 33 #[.slice A0 l.length c0, .slice A1 l.length c1] w fun e w' => e = .returned (.bool true) ∧ w = w' := by
  have K := same_calls A0 A1 l.length l.length c0 c1 l l w h0 h1 b b
  rw [decide_eq_true rfl] at K
  exact K

set_option maxHeartbeats 1000000 in
set_option maxRecDepth 100000 in
theorem numBytes_walk {n size i : Int} {A : Option Addr} {c : Nat} {l : List Int} (w : World) (wn : (Lit.int .u64 n).wf = true) (ws : (Lit.int .i64 size).wf = true)
    (hC : Kd.C (Kd.int .u8) w A l.length l) (hl : l.length ≤ c) (hw : l.length ≤ 9223372036854775807 ∧ l.length * 1 ≤ 140737488351232 ∧ ∀ x ∈ l, (Lit.int .u8 x).wf = true) (wi : (Lit.int .i64 i).wf = true) :
    Calls Try.prog 9 #[.int .u64 n, .int .i64 size, .slice A l.length c, .int .i64 i] w fun e w' => e = .returned (.bool true) ∧ Below w.heap.size w w' := by
  have hb : Bytes l := fun x hx => by have := bd_u8 (hw.2.2 x hx); omega
  have n0 := bd_u64 wn
  have K1 := Lib.hid (wide_calls A c l w hC (by omega))
  have K2 := Lib.hid (nput_calls n size (by omega) (by omega))
  have K3 := Lib.hid (rput_calls n size (by omega) (by omega))
  have hpb := putL_bytes n size
  obtain ⟨L, hL⟩ : ∃ L, putL n size = L := ⟨_, rfl⟩
  obtain ⟨E, hE⟩ : ∃ E, putE n size = E := ⟨_, rfl⟩
  rw [hL, hE] at K2 K3
  rw [hL] at hpb
  have K4 := Lib.hid (fun A' c' w' (h : Kd.C (Kd.int .u8) w' A' l.length l) (hc : l.length ≤ c') => get_calls A' c' l i size w' h hc hb)
  have K5 := Lib.hid (fun A' c' w' (h : Kd.C (Kd.int .u8) w' A' l.length l) => rget_calls A' c' l i size w' h hb)
  obtain ⟨g1, hg1⟩ : ∃ g, (get l i size).1 = g := ⟨_, rfl⟩
  obtain ⟨g2, hg2⟩ : ∃ g, (get l i size).2 = g := ⟨_, rfl⟩
  rw [hg1, hg2] at K4 K5
  have HP := Lib.hid hpb
  have HBy := Lib.hid hb
  have HC := Lib.hid hC
  clear hL hE hg1 hg2 hpb hb hC hw wn ws wi n0
  go_enter Try.func9, Try.ntmps9
  go_wp2_with (first
    | (go_at_call 28; refine K1.out.mono ?_; rintro e w1 ⟨A1, c1, rfl, hc1, hr1, hb1⟩; have HB1 := Lib.hid hb1; have HW := Lib.hid hr1; clear hr1 hb1)
    | (go_at_call 29; refine (K2.out _).mono ?_; rintro e w2 ⟨v2, rfl, hr2, hb2⟩; obtain ⟨A2, c2, rfl, hc2, hr2⟩ := Kd.R_reads hr2; have HB2 := Lib.hid hb2; have HR2 := Lib.hid hr2; clear hr2 hb2 hc2)
    | (go_at_call 30; refine (K3.out _).mono ?_; rintro e w3 ⟨v3, rfl, hr3, hb3⟩; obtain ⟨A3, c3, rfl, hc3, hr3⟩ := Kd.R_reads hr3; have HB3 := Lib.hid hb3; have HR3 := Lib.hid hr3; clear hr3 hb3 hc3)
    | (go_at_call 31; refine (K4.out _ _ _ (by have := Kd.C_take (m := l.length) (Kd.C_below (Kd.C_below HW.out HB2.out) HB3.out) (by simp); rw [List.take_left] at this; exact this) (by omega)).mono ?_; rintro e w' ⟨rfl, rfl⟩)
    | (go_at_call 32; refine (K5.out _ _ _ (Kd.C_below (Kd.C_below (Kd.C_below HC.out HB1.out) HB2.out) HB3.out)).mono ?_; rintro e w' ⟨rfl, rfl⟩)
    | (go_at_call 33; refine (same_same _ _ _ _ L _ (Kd.C_below HR2.out HB3.out) HR3.out HP.out).mono ?_; rintro e w' ⟨rfl, rfl⟩)
    | (go_at_call 34; refine (left_calls _ _ _ _ l _ (Kd.C_below (Kd.C_below HW.out HB2.out) HB3.out) hc1 (Kd.C_below (Kd.C_below (Kd.C_below HC.out HB1.out) HB2.out) HB3.out) HBy.out).mono ?_; rintro e w' ⟨rfl, rfl⟩)
    | (go_at_call 16; refine (lives01 _).mono ?_; rintro e w4 ⟨rfl, hb4⟩; have HB4 := Lib.hid hb4; clear hb4))
  all_goals trace_state
  go_ret
  exact ⟨rfl, below_step (below_step (below_step HB1.out HB2.out) HB3.out) HB4.out⟩
end Go.Proofs.Ytodplmpjmbncdaa.H
