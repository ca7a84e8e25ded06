/- The walks of swapRange and rotate. -/
import Derived.Test.YtnlcpgeapgnkgaaIns
import Derived.Test.YtnlcpgeapgnkgaaSym2
import Derived.Sort.WalkA
import Derived.Sort.WalkB2
import Derived.Sort.WalkB12
import Derived.Deep.LoopGhost
namespace Go.Proofs.Ytnlcpgeapgnkgaa.H
open Go.RowKit Go.Proofs.YtnlcpgeapgnkgaaW.PrintWords Go.Proofs.YtnlcpgeapgnkgaaW.PrintLast Go.Proofs.YtnlcpgeapgnkgaaW.PrintMore
open Go.Shelf Go.Sort
set_option linter.unusedVariables false
set_option linter.unusedSimpArgs false

set_option maxHeartbeats 4000000 in
set_option maxRecDepth 1000000 in
theorem swapRange_calls (n g blk cap a b m : Nat) (cb : Array Value) (d0 d : Array (Fin (n + 1))) (w0 w : World)
    (R : Row1 (encF n) w0 blk 0 d0) (hs : d0.size = d.size) (S : SW (encF n) w0 blk 0 d w) (h1 : a + m ≤ b) (h2 : b + m ≤ d.size) (hsz : d.size < 4611686018427387904) :
    Calls Try.prog 68 #[.slice (some ⟨blk, 0, none⟩) d.size cap, .int .i64 a, .int .i64 b, .int .i64 m, .func (.func g) #[] cb] w fun e w' => e = .returned (.tuple #[]) ∧ SW (encF n) w0 blk 0 (swR d a b m) w' := by
  have mixed : Try.prog.follows .mixedOrders = true := by kernel_rfl
  have S0 : Aside (SW (encF n) w0 blk 0 d w) := S
  clear S
  go_enter Try.func68, Try.ntmps68
  go_wp2
  go_loopg [10] m (fun kx s10 wr => ∃ (i : Nat) (dk : Array (Fin (n + 1))), s10 = .int .i64 i ∧ i ≤ m ∧ m - i ≤ kx ∧ dk.size = d.size ∧ Aside (SW (encF n) w0 blk 0 dk wr) ∧ Hid (dk = swR d a b i))
  case atStart => exact ⟨0, d, rfl, by omega, by omega, rfl, S0, Lib.hid rfl⟩
  case round =>
    clear S0
    obtain ⟨i, dk, rfl, hi, hkx, hds, S1, HD⟩ := hrel
    by_cases hlt : i < m
    · obtain ⟨iN, hiN⟩ : ∃ q, q = a + i := ⟨_, rfl⟩
      obtain ⟨jN, hjN⟩ : ∃ q, q = b + i := ⟨_, rfl⟩
      have ea : ((a : Int) + (i : Int)).toNat = iN := by omega
      have pa : (0 : Int) ≤ (a : Int) + (i : Int) := by omega
      have ba : (a : Int) + (i : Int) < (d.size : Int) := by omega
      have ra : IntKind.i64.wrap ((a : Int) + (i : Int)) = (a : Int) + (i : Int) := by rw [IntKind.wrap_i64]; omega
      have ec : ((b : Int) + (i : Int)).toNat = jN := by omega
      have pc : (0 : Int) ≤ (b : Int) + (i : Int) := by omega
      have bc : (b : Int) + (i : Int) < (d.size : Int) := by omega
      have rc : IntKind.i64.wrap ((b : Int) + (i : Int)) = (b : Int) + (i : Int) := by rw [IntKind.wrap_i64]; omega
      obtain ⟨x, hx⟩ : ∃ x, x = dk[iN]! := ⟨_, rfl⟩
      obtain ⟨y, hy⟩ : ∃ x, x = dk[jN]! := ⟨_, rfl⟩
      have S2 : Aside (SW (encF n) w0 blk 0 (swp dk iN jN) ((wr.setCell ⟨blk, 0 + iN, none⟩ (encF n y)).setCell ⟨blk, 0 + jN, none⟩ (encF n x)).drew) := by rw [hx, hy]; exact S1.out.swapped R iN jN (by omega) (by omega)
      have ca := S1.out.c1 R (by omega) iN (by omega)
      have cb' := S1.out.c1 R (by omega) jN (by omega)
      have fa := S1.out.f1 R (by omega) iN (by omega)
      have fb := S1.out.f1 R (by omega) jN (by omega)
      obtain ⟨u, cc⟩ := S1.out.c2 R (by omega) iN jN (by omega) (by omega) (encF n y)
      rw [← hx] at ca
      rw [← hy] at cb'
      have zx : encF n x = .int .i64 (x.val : Int) := rfl
      have zy : encF n y = .int .i64 (y.val : Int) := rfl
      rw [zx] at ca S2
      rw [zy] at cb' cc S2
      rw [Nat.zero_add] at ca cb' fa fb cc
      rw [Nat.zero_add] at cc
      rw [Nat.zero_add, Nat.zero_add] at S2
      have HX : Hid (iN = a + i ∧ jN = b + i) := Lib.hid ⟨hiN, hjN⟩
      clear S1 hx hy hiN hjN zx zy
      go_wp2_with fail
      go_big_region_o
      clear ca cb' cc fa fb
      generalize ((wr.setCell { block := blk, off := iN } (Value.int .i64 (y.val : Int))).setCell { block := blk, off := jN } (Value.int .i64 (x.val : Int))).drew = w2 at S2 ⊢
      clear ea ec
      go_wp2
      go_roundg (m - (i + 1))
      case measure => omega
      case rel =>
        have hD := HD.out
        obtain ⟨e1, e2⟩ := HX.out
        subst e1 e2
        exact ⟨i + 1, swp dk (a + i) (b + i), by go_num, by omega, Nat.le_refl _, by rw [size_swp]; exact hds, S2, Lib.hid (by rw [hD]; rfl)⟩
    · have hie : i = m := by omega
      subst hie
      go_wp2
      go_end0
      have := HD.out
      exact ⟨rfl, by rw [← this]; exact S1.out⟩
set_option maxHeartbeats 4000000 in
set_option maxRecDepth 1000000 in
theorem rotate_calls (n g blk cap a m b : Nat) (cb : Array Value) (d0 d : Array (Fin (n + 1))) (w0 w : World)
    (R : Row1 (encF n) w0 blk 0 d0) (hs : d0.size = d.size) (S : SW (encF n) w0 blk 0 d w) (h1 : a < m) (h2 : m < b) (h3 : b ≤ d.size) (hsz : d.size < 4611686018427387904) :
    Calls Try.prog 67 #[.slice (some ⟨blk, 0, none⟩) d.size cap, .int .i64 a, .int .i64 m, .int .i64 b, .func (.func g) #[] cb] w fun e w' => e = .returned (.tuple #[]) ∧ ∃ d', Rotd a m b d d' ∧ SW (encF n) w0 blk 0 d' w' := by
  have S0 : Aside (SW (encF n) w0 blk 0 d w) := S
  clear S
  go_enter Try.func67, Try.ntmps67
  go_wp2
  go_loopg [10, 11] (b - a) (fun kx s10 s11 wr => ∃ (i j : Nat) (dk : Array (Fin (n + 1))), s10 = .int .i64 i ∧ s11 = .int .i64 j ∧ i + j ≤ kx ∧ 0 < i ∧ 0 < j ∧ i ≤ m - a ∧ j ≤ b - m ∧ dk.size = d.size ∧ Aside (SW (encF n) w0 blk 0 dk wr) ∧ Hid (RotI a m b d i j dk))
  case atStart => exact ⟨m - a, b - m, d, by go_num, by go_num, by omega, by omega, by omega, by omega, by omega, rfl, S0, Lib.hid (RotI.start h1 h2)⟩
  case round =>
    clear S0
    obtain ⟨i, j, dk, rfl, rfl, hkx, hi, hj, hi2, hj2, hds, S1, HD⟩ := hrel
    have hds2 : d0.size = dk.size := by omega
    rcases Nat.lt_trichotomy i j with hij | hij | hij
    · have K := Lib.hid (swapRange_calls n g blk cap (m - i) (m + j - i) i cb d0 dk w0 wr R hds2 S1.out (by omega) (by omega) (by omega))
      have z1 : ((m - i : Nat) : Int) = (m : Int) - (i : Int) := by omega
      have z2 : ((m + j - i : Nat) : Int) = (m : Int) + (j : Int) - (i : Int) := by omega
      rw [z1, z2, hds] at K
      clear z1 z2 S1
      go_wp2_with (first | (go_at_call 68; refine K.out.mono ?_; rintro e w2 ⟨rfl, hw2⟩; have S2 : Aside _ := hw2; clear hw2))
      go_roundg (j)
      case measure => omega
      case rel => exact ⟨i, j - i, _, rfl, by go_num, by omega, hi, by omega, hi2, by omega, by rw [swR_size]; exact hds, S2, Lib.hid (HD.out.lt ⟨by omega, by omega⟩ h3 hij)⟩
    · subst hij
      have K := Lib.hid (swapRange_calls n g blk cap (m - i) m i cb d0 dk w0 wr R hds2 S1.out (by omega) (by omega) (by omega))
      have z1 : ((m - i : Nat) : Int) = (m : Int) - (i : Int) := by omega
      rw [z1, hds] at K
      clear z1 S1
      go_wp2_with (first | (go_at_call 68; refine K.out.mono ?_; rintro e w2 ⟨rfl, hw2⟩; have S2 : Aside _ := hw2; clear hw2))
      go_end0
      exact ⟨rfl, _, HD.out.fin ⟨by omega, by omega⟩ h3, S2.out⟩
    · have K := Lib.hid (swapRange_calls n g blk cap (m - i) m j cb d0 dk w0 wr R hds2 S1.out (by omega) (by omega) (by omega))
      have z1 : ((m - i : Nat) : Int) = (m : Int) - (i : Int) := by omega
      rw [z1, hds] at K
      clear z1 S1
      go_wp2_with (first | (go_at_call 68; refine K.out.mono ?_; rintro e w2 ⟨rfl, hw2⟩; have S2 : Aside _ := hw2; clear hw2))
      go_roundg (i)
      case measure => omega
      case rel => exact ⟨i - j, j, _, by go_num, rfl, by omega, by omega, hj, by omega, hj2, by rw [swR_size]; exact hds, S2, Lib.hid (HD.out.gt ⟨by omega, by omega⟩ h3 hij)⟩
end Go.Proofs.Ytnlcpgeapgnkgaa.H
