/- The walk of symMerge where the left part is one element. -/
import Derived.Test.YtaoflcmjmhfblaaSymWK
namespace Go.Proofs.Ytaoflcmjmhfblaa.HK
open Go.Proofs.Ytaoflcmjmhfblaa.H
variable {Pg : Program} {α : Type} [Inhabited α] {kc : Nat}
open Go.RowKit Go.Proofs.YtaoflcmjmhfblaaW.PrintWords Go.Proofs.YtaoflcmjmhfblaaW.PrintLast Go.Proofs.YtaoflcmjmhfblaaW.PrintMore
open Go.Shelf Go.Sort
set_option linter.unusedVariables false
set_option linter.unusedSimpArgs false

set_option maxHeartbeats 4000000 in
set_option maxRecDepth 1000000 in
theorem symL_calls (LL : LaysK Pg kc) (enc : α → List Value) (g blk off cap a m b : Nat) (cb : Array Value) (cf : α → α → Int) (idx : α → Nat) (C : CfOk cf) (d0 d : Array α) (w0 w : World)
    (eg : ∀ args w, (callFunc g args).run Pg w = .ok (.enter g args) w) (hcmp : CmpLays Pg g cb enc kc cf blk off d0.size w0)
    (R : RowK enc kc w0 blk off d0) (hs : d0.size = d.size) (S : SWK enc kc w0 blk off d w) (hsz : d.size < 4611686018427387904) (M : MPre cf idx a m b d) (h1 : m = a + 1) :
    Calls Pg 171 #[.slice (some ⟨blk, off, none⟩) d.size cap, .int .i64 a, .int .i64 m, .int .i64 b, .func (.func g) #[] cb] w fun e w' => e = .returned (.tuple #[]) ∧ ∃ d', MPost cf idx a b d d' ∧ SWK enc kc w0 blk off d' w' := by
  have mixed := LL.mixed; have t0 := LL.t0; have a0 := LL.a0; have z0 := LL.z0; have v0 := LL.v0; have t3 := LL.t3; have a3 := LL.a3; have z3 := LL.z3; have v3 := LL.v3; have t4 := LL.t4; have a4 := LL.a4; have z4 := LL.z4; have v4 := LL.v4; have t22 := LL.t22; have a22 := LL.a22; have z22 := LL.z22; have v22 := LL.v22; have t25 := LL.t25; have a25 := LL.a25; have z25 := LL.z25; have v25 := LL.v25; have tu := LL.tu; have au := LL.au; have zu := LL.zu; have vu := LL.vu; have aE := LL.aE; have zE := LL.zE; have ee1 := LL.esw; have ee2 := LL.erot; have ee3 := LL.esym; have ee4 := LL.est; have ee5 := LL.eins
  have HC : Aside _ := hcmp
  have S0 : Aside (SWK enc kc w0 blk off d w) := S
  have b1 := M.am
  have b2 := M.mb
  have b3 := M.size
  have HM := Lib.hid M
  clear S hcmp M
  have hm1 : ((m : Int) - (a : Int) == 1) = true := by rw [show (m : Int) - (a : Int) = 1 by omega]; rfl
  have HE := Lib.hid h1
  clear h1
  go_enter LL.fsym, Try.ntmps171
  go_wp2
  go_loopg [10, 11] (b - m) (fun kx s10 s11 wr => ∃ (i j : Nat), s10 = .int .i64 i ∧ s11 = .int .i64 j ∧ m ≤ i ∧ i ≤ j ∧ j ≤ b ∧ j - i ≤ kx ∧ Aside (SWK enc kc w0 blk off d wr) ∧ Hid (i = m ∨ cf d[i - 1]! d[a]! < 0) ∧ Hid (j = b ∨ ¬ cf d[j]! d[a]! < 0))
  case atStart => exact ⟨m, b, rfl, rfl, by omega, by omega, by omega, by omega, S0, Lib.hid (.inl rfl), Lib.hid (.inl rfl)⟩
  case round =>
    clear S0
    obtain ⟨i, j, rfl, rfl, hi1, hij, hjb, hkx, S1, F1, F2⟩ := hrel
    by_cases hlt : i < j
    · obtain ⟨h, hh⟩ : ∃ h, h = (i + j) / 2 := ⟨_, rfl⟩
      have ea : (((i : Int) + (j : Int)) / 2).toNat = h := by omega
      have pa : (0 : Int) ≤ ((i : Int) + (j : Int)) / 2 := by omega
      have ba : ((i : Int) + (j : Int)) / 2 < (d.size : Int) := by omega
      have ra : IntKind.i64.wrap (((i : Int) + (j : Int)) / 2) = ((i : Int) + (j : Int)) / 2 := by rw [IntKind.wrap_i64]; omega
      obtain ⟨aN, haN⟩ : ∃ q, q = a := ⟨_, rfl⟩
      have ec : ((a : Int)).toNat = aN := by omega
      have pc : (0 : Int) ≤ (a : Int) := by omega
      have bc : (a : Int) < (d.size : Int) := by omega
      have rc : IntKind.i64.wrap (a : Int) = (a : Int) := by rw [IntKind.wrap_i64]; omega
      obtain ⟨x, hx⟩ : ∃ x, x = d[h]! := ⟨_, rfl⟩
      obtain ⟨y, hy⟩ : ∃ x, x = d[a]! := ⟨_, rfl⟩
      have la := S1.out.ld R hs.symm Pg h (by omega)
      have lb := S1.out.ld R hs.symm Pg a (by omega)
      rw [← haN] at lb hy
      rw [← hx] at la
      rw [← hy] at lb
      have hc := S1.out.cmp HC.out hs.symm x y
      have HXY : Hid (x = d[h]! ∧ y = d[a]! ∧ h = (i + j) / 2) := Lib.hid ⟨hx, by rw [hy, haN], hh⟩
      by_cases hq : cf x y < 0
      · have hd1 : decide (cf x y < 0) = true := decide_eq_true hq
        clear hx hy hh haN
        go_wp2_with fail
        go_quiet_grown (first | (go_at_fn g; refine Calls.grown_of (hc _ _)))
        have S2 : Aside (SWK enc kc w0 blk off d (grow (wr.drewN nq) osq)) := S1.out.grown nq osq
        clear la lb hc S1
        generalize grow (wr.drewN nq) osq = w2 at S2 ⊢
        clear nq osq
        clear ea ec
        go_wp2
        obtain ⟨e1, e2, e3⟩ := HXY.out
        go_roundg (j - (h + 1))
        case measure => omega
        case rel => exact ⟨h + 1, j, by go_num, rfl, by omega, by omega, hjb, Nat.le_refl _, S2, Lib.hid (.inr (by rw [Nat.add_sub_cancel, ← e1, ← e2]; exact hq)), F2⟩
      · have hd1 : decide (cf x y < 0) = false := decide_eq_false hq
        clear hx hy hh haN
        go_wp2_with fail
        go_quiet_grown (first | (go_at_fn g; refine Calls.grown_of (hc _ _)))
        have S2 : Aside (SWK enc kc w0 blk off d (grow (wr.drewN nq) osq)) := S1.out.grown nq osq
        clear la lb hc S1
        generalize grow (wr.drewN nq) osq = w2 at S2 ⊢
        clear nq osq
        clear ea ec
        go_wp2
        obtain ⟨e1, e2, e3⟩ := HXY.out
        go_roundg (h - i)
        case measure => omega
        case rel => exact ⟨i, h, rfl, by go_num, by omega, by omega, by omega, Nat.le_refl _, S2, F1, Lib.hid (.inr (by rw [← e1, ← e2]; exact hq))⟩
    · have hje : i = j := by omega
      subst hje
      have f1 := F1.out
      have f2 := F2.out
      have P := Lib.hid (one_left C HM.out HE.out hi1 hjb f1 f2)
      clear f1 f2 F1 F2 HC
      go_wp2
      go_loopg [13] (i - 1 - a) (fun kx s13 wq => ∃ (k : Nat) (dk : Array α), s13 = .int .i64 k ∧ a ≤ k ∧ k ≤ i - 1 ∧ i - 1 - k ≤ kx ∧ dk.size = d.size ∧ Aside (SWK enc kc w0 blk off dk wq) ∧ Hid (dk = shU d a (k - a)))
      case atStart => exact ⟨a, d, rfl, by omega, by omega, by omega, rfl, S1, Lib.hid (by rw [Nat.sub_self]; rfl)⟩
      case round =>
        clear S1
        obtain ⟨k, dk, rfl, hk1, hk2, hkx2, hds, S1, HD⟩ := hrel
        by_cases hlt2 : k < i - 1
        · obtain ⟨iN, hiN⟩ : ∃ q, q = k := ⟨_, rfl⟩
          obtain ⟨jN, hjN⟩ : ∃ q, q = k + 1 := ⟨_, rfl⟩
          have ea : ((k : Int)).toNat = iN := by omega
          have pa : (0 : Int) ≤ (k : Int) := by omega
          have ba : (k : Int) < (d.size : Int) := by omega
          have ra : IntKind.i64.wrap (k : Int) = (k : Int) := by rw [IntKind.wrap_i64]; omega
          have ec : ((k : Int) + 1).toNat = jN := by omega
          have pc : (0 : Int) ≤ (k : Int) + 1 := by omega
          have bc : (k : Int) + 1 < (d.size : Int) := by omega
          have rc : IntKind.i64.wrap ((k : Int) + 1) = (k : Int) + 1 := by rw [IntKind.wrap_i64]; omega
          have S2 : Aside (SWK enc kc w0 blk off (swp dk iN jN) ((wr.drew.setCells blk (off + iN * kc) (enc dk[jN]!)).setCells blk (off + jN * kc) (enc dk[iN]!))) := S1.out.swapped R iN jN (by omega) (by omega)
          have l4a := S1.out.ld1 R (by omega) Pg iN (by omega)
          have l4b := S1.out.ld1 R (by omega) Pg jN (by omega)
          have s4a := S1.out.st1 R (by omega) Pg iN (by omega) dk[jN]!
          have s4b := S1.out.st2 R (by omega) Pg iN jN (by omega) (by omega) dk[jN]! dk[iN]!
          have n4a : (enc dk[iN]!).length = kc := R.hk _
          have n4b : (enc dk[jN]!).length = kc := R.hk _
          generalize enc dk[iN]! = cI at S2 l4a s4b n4a
          generalize enc dk[jN]! = cJ at S2 l4b s4a s4b n4b
          have HX : Hid (iN = k ∧ jN = k + 1) := Lib.hid ⟨hiN, hjN⟩
          clear S1 hiN hjN
          go_wp2_with fail
          go_big_region_o
          clear l4a l4b s4a s4b
          generalize (wr.drew.setCells blk (off + iN * kc) cJ).setCells blk (off + jN * kc) cI = w2 at S2 ⊢
          clear ea ec
          go_wp2
          go_roundg (i - 1 - (k + 1))
          case measure => omega
          case rel =>
            have hD := HD.out
            obtain ⟨e1, e2⟩ := HX.out
            subst e1 e2
            exact ⟨iN + 1, swp dk iN (iN + 1), by go_num, by omega, by omega, Nat.le_refl _, by rw [size_swp]; exact hds, S2, Lib.hid (by
              rw [hD, show iN + 1 - a = (iN - a) + 1 by omega]
              show _ = swp (shU d a (iN - a)) (a + (iN - a)) (a + (iN - a) + 1)
              rw [show a + (iN - a) = iN by omega])⟩
        · have hie : k = i - 1 := by omega
          go_wp2
          refine bodyPost_ret (results_none rfl _ _ _) rfl ?_
          have hD := HD.out
          exact ⟨rfl, dk, by rw [hD, hie]; exact P.out, S1.out⟩
end Go.Proofs.Ytaoflcmjmhfblaa.HK
