/- The walks of swapRange and rotate. -/
import Derived.Test.YtaoflcmjmhfblaaSymK0
import Derived.Test.YtaoflcmjmhfblaaSym2
import Derived.Sort.WalkA
import Derived.Sort.WalkB2
import Derived.Sort.WalkB12
import Derived.Deep.LoopGhost
namespace Go.Proofs.Ytaoflcmjmhfblaa.HK
open Go.Proofs.Ytaoflcmjmhfblaa.H
variable {Pg : Program} {α : Type} [Inhabited α] {kc : Nat}
open Go.RowKit Go.Proofs.YtaoflcmjmhfblaaW.PrintWords Go.Proofs.YtaoflcmjmhfblaaW.PrintLast Go.Proofs.YtaoflcmjmhfblaaW.PrintMore
open Go.Shelf Go.Sort
set_option linter.unusedVariables false
set_option linter.unusedSimpArgs false

set_option maxHeartbeats 4000000 in
set_option maxRecDepth 1000000 in
theorem swapRange_calls (LL : LaysK Pg kc) (enc : α → List Value) (g blk off cap a b m : Nat) (cb : Array Value) (d0 d : Array α) (w0 w : World)
    (R : RowK enc kc w0 blk off d0) (hs : d0.size = d.size) (S : SWK enc kc w0 blk off d w) (h1 : a + m ≤ b) (h2 : b + m ≤ d.size) (hsz : d.size < 4611686018427387904) :
    Calls Pg 176 #[.slice (some ⟨blk, off, none⟩) d.size cap, .int .i64 a, .int .i64 b, .int .i64 m, .func (.func g) #[] cb] w fun e w' => e = .returned (.tuple #[]) ∧ SWK enc kc w0 blk off (swR d a b m) w' := by
  have mixed := LL.mixed; have t0 := LL.t0; have a0 := LL.a0; have z0 := LL.z0; have v0 := LL.v0; have t3 := LL.t3; have a3 := LL.a3; have z3 := LL.z3; have v3 := LL.v3; have t4 := LL.t4; have a4 := LL.a4; have z4 := LL.z4; have v4 := LL.v4; have t22 := LL.t22; have a22 := LL.a22; have z22 := LL.z22; have v22 := LL.v22; have t25 := LL.t25; have a25 := LL.a25; have z25 := LL.z25; have v25 := LL.v25; have tu := LL.tu; have au := LL.au; have zu := LL.zu; have vu := LL.vu; have aE := LL.aE; have zE := LL.zE; have ee1 := LL.esw; have ee2 := LL.erot; have ee3 := LL.esym; have ee4 := LL.est; have ee5 := LL.eins
  have S0 : Aside (SWK enc kc w0 blk off d w) := S
  clear S
  go_enter LL.fsw, Try.ntmps176
  go_wp2
  go_loopg [10] m (fun kx s10 wr => ∃ (i : Nat) (dk : Array α), s10 = .int .i64 i ∧ i ≤ m ∧ m - i ≤ kx ∧ dk.size = d.size ∧ Aside (SWK enc kc w0 blk off dk wr) ∧ Hid (dk = swR d a b i))
  case atStart => exact ⟨0, d, rfl, by omega, by omega, rfl, S0, Lib.hid rfl⟩
  case round =>
    clear S0
    obtain ⟨i, dk, rfl, hi, hkx, hds, S1, HD⟩ := hrel
    by_cases hlt : i < m
    · obtain ⟨iN, hiN⟩ : ∃ q, q = a + i := ⟨_, rfl⟩
      obtain ⟨jN, hjN⟩ : ∃ q, q = b + i := ⟨_, rfl⟩
      have ea : ((a : Int) + (i : Int)).toNat = iN := by omega
      have pa : (0 : Int) ≤ (a : Int) + (i : Int) := by omega
      have ba : (a : Int) + (i : Int) < (d.size : Int) := by omega
      have ra : IntKind.i64.wrap ((a : Int) + (i : Int)) = (a : Int) + (i : Int) := by rw [IntKind.wrap_i64]; omega
      have ec : ((b : Int) + (i : Int)).toNat = jN := by omega
      have pc : (0 : Int) ≤ (b : Int) + (i : Int) := by omega
      have bc : (b : Int) + (i : Int) < (d.size : Int) := by omega
      have rc : IntKind.i64.wrap ((b : Int) + (i : Int)) = (b : Int) + (i : Int) := by rw [IntKind.wrap_i64]; omega
      have S2 : Aside (SWK enc kc w0 blk off (swp dk iN jN) ((wr.drew.setCells blk (off + iN * kc) (enc dk[jN]!)).setCells blk (off + jN * kc) (enc dk[iN]!))) := S1.out.swapped R iN jN (by omega) (by omega)
      have l4a := S1.out.ld1 R (by omega) Pg iN (by omega)
      have l4b := S1.out.ld1 R (by omega) Pg jN (by omega)
      have s4a := S1.out.st1 R (by omega) Pg iN (by omega) dk[jN]!
      have s4b := S1.out.st2 R (by omega) Pg iN jN (by omega) (by omega) dk[jN]! dk[iN]!
      have n4a : (enc dk[iN]!).length = kc := R.hk _
      have n4b : (enc dk[jN]!).length = kc := R.hk _
      generalize enc dk[iN]! = cI at S2 l4a s4b n4a
      generalize enc dk[jN]! = cJ at S2 l4b s4a s4b n4b
      have HX : Hid (iN = a + i ∧ jN = b + i) := Lib.hid ⟨hiN, hjN⟩
      clear S1 hiN hjN
      go_wp2_with fail
      go_big_region_o
      clear l4a l4b s4a s4b
      generalize (wr.drew.setCells blk (off + iN * kc) cJ).setCells blk (off + jN * kc) cI = w2 at S2 ⊢
      clear ea ec
      go_wp2
      go_roundg (m - (i + 1))
      case measure => omega
      case rel =>
        have hD := HD.out
        obtain ⟨e1, e2⟩ := HX.out
        subst e1 e2
        exact ⟨i + 1, swp dk (a + i) (b + i), by go_num, by omega, Nat.le_refl _, by rw [size_swp]; exact hds, S2, Lib.hid (by rw [hD]; rfl)⟩
    · have hie : i = m := by omega
      subst hie
      go_wp2
      go_end0
      have := HD.out
      exact ⟨rfl, by rw [← this]; exact S1.out⟩
set_option maxHeartbeats 4000000 in
set_option maxRecDepth 1000000 in
theorem rotate_calls (LL : LaysK Pg kc) (enc : α → List Value) (g blk off cap a m b : Nat) (cb : Array Value) (d0 d : Array α) (w0 w : World)
    (R : RowK enc kc w0 blk off d0) (hs : d0.size = d.size) (S : SWK enc kc w0 blk off d w) (h1 : a < m) (h2 : m < b) (h3 : b ≤ d.size) (hsz : d.size < 4611686018427387904) :
    Calls Pg 174 #[.slice (some ⟨blk, off, none⟩) d.size cap, .int .i64 a, .int .i64 m, .int .i64 b, .func (.func g) #[] cb] w fun e w' => e = .returned (.tuple #[]) ∧ ∃ d', Rotd a m b d d' ∧ SWK enc kc w0 blk off d' w' := by
  have S0 : Aside (SWK enc kc w0 blk off d w) := S
  clear S
  have mixed := LL.mixed; have t0 := LL.t0; have a0 := LL.a0; have z0 := LL.z0; have v0 := LL.v0; have t3 := LL.t3; have a3 := LL.a3; have z3 := LL.z3; have v3 := LL.v3; have t4 := LL.t4; have a4 := LL.a4; have z4 := LL.z4; have v4 := LL.v4; have t22 := LL.t22; have a22 := LL.a22; have z22 := LL.z22; have v22 := LL.v22; have t25 := LL.t25; have a25 := LL.a25; have z25 := LL.z25; have v25 := LL.v25; have tu := LL.tu; have au := LL.au; have zu := LL.zu; have vu := LL.vu; have aE := LL.aE; have zE := LL.zE; have ee1 := LL.esw; have ee2 := LL.erot; have ee3 := LL.esym; have ee4 := LL.est; have ee5 := LL.eins
  go_enter LL.frot, Try.ntmps174
  go_wp2
  go_loopg [10, 11] (b - a) (fun kx s10 s11 wr => ∃ (i j : Nat) (dk : Array α), s10 = .int .i64 i ∧ s11 = .int .i64 j ∧ i + j ≤ kx ∧ 0 < i ∧ 0 < j ∧ i ≤ m - a ∧ j ≤ b - m ∧ dk.size = d.size ∧ Aside (SWK enc kc w0 blk off dk wr) ∧ Hid (RotI a m b d i j dk))
  case atStart => exact ⟨m - a, b - m, d, by go_num, by go_num, by omega, by omega, by omega, by omega, by omega, rfl, S0, Lib.hid (RotI.start h1 h2)⟩
  case round =>
    clear S0
    obtain ⟨i, j, dk, rfl, rfl, hkx, hi, hj, hi2, hj2, hds, S1, HD⟩ := hrel
    have hds2 : d0.size = dk.size := by omega
    rcases Nat.lt_trichotomy i j with hij | hij | hij
    · have K := Lib.hid (swapRange_calls LL enc g blk off cap (m - i) (m + j - i) i cb d0 dk w0 wr R hds2 S1.out (by omega) (by omega) (by omega))
      have z1 : ((m - i : Nat) : Int) = (m : Int) - (i : Int) := by omega
      have z2 : ((m + j - i : Nat) : Int) = (m : Int) + (j : Int) - (i : Int) := by omega
      rw [z1, z2, hds] at K
      clear z1 z2 S1
      go_wp2_with (first | (go_at_fn 176; refine K.out.mono ?_; rintro e w2 ⟨rfl, hw2⟩; have S2 : Aside _ := hw2; clear hw2))
      go_roundg (j)
      case measure => omega
      case rel => exact ⟨i, j - i, _, rfl, by go_num, by omega, hi, by omega, hi2, by omega, by rw [swR_size]; exact hds, S2, Lib.hid (HD.out.lt ⟨by omega, by omega⟩ h3 hij)⟩
    · subst hij
      have K := Lib.hid (swapRange_calls LL enc g blk off cap (m - i) m i cb d0 dk w0 wr R hds2 S1.out (by omega) (by omega) (by omega))
      have z1 : ((m - i : Nat) : Int) = (m : Int) - (i : Int) := by omega
      rw [z1, hds] at K
      clear z1 S1
      go_wp2_with (first | (go_at_fn 176; refine K.out.mono ?_; rintro e w2 ⟨rfl, hw2⟩; have S2 : Aside _ := hw2; clear hw2))
      go_end0
      exact ⟨rfl, _, HD.out.fin ⟨by omega, by omega⟩ h3, S2.out⟩
    · have K := Lib.hid (swapRange_calls LL enc g blk off cap (m - i) m j cb d0 dk w0 wr R hds2 S1.out (by omega) (by omega) (by omega))
      have z1 : ((m - i : Nat) : Int) = (m : Int) - (i : Int) := by omega
      rw [z1, hds] at K
      clear z1 S1
      go_wp2_with (first | (go_at_fn 176; refine K.out.mono ?_; rintro e w2 ⟨rfl, hw2⟩; have S2 : Aside _ := hw2; clear hw2))
      go_roundg (i)
      case measure => omega
      case rel => exact ⟨i - j, j, _, by go_num, rfl, by omega, by omega, hj, by omega, hj2, by rw [swR_size]; exact hds, S2, Lib.hid (HD.out.gt ⟨by omega, by omega⟩ h3 hij)⟩
end Go.Proofs.Ytaoflcmjmhfblaa.HK
