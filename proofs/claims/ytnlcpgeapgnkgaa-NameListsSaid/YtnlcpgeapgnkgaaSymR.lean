/- The walk of symMerge where the right part is one element. -/
import Derived.Test.YtnlcpgeapgnkgaaSymL
namespace Go.Proofs.Ytnlcpgeapgnkgaa.H
open Go.RowKit Go.Proofs.YtnlcpgeapgnkgaaW.PrintWords Go.Proofs.YtnlcpgeapgnkgaaW.PrintLast Go.Proofs.YtnlcpgeapgnkgaaW.PrintMore
open Go.Shelf Go.Sort
set_option linter.unusedVariables false
set_option linter.unusedSimpArgs false

set_option maxHeartbeats 4000000 in
set_option maxRecDepth 1000000 in
theorem symR_calls (n g blk cap a m b : Nat) (cb : Array Value) (cf : Fin (n + 1) → Fin (n + 1) → Int) (idx : Fin (n + 1) → Nat) (C : CfOk cf) (d0 d : Array (Fin (n + 1))) (w0 w : World)
    (eg : ∀ args w, (callFunc g args).run Try.prog w = .ok (.enter g args) w) (hcmp : CmpLays1 Try.prog g cb (encF n) cf blk 0 d0.size w0)
    (R : Row1 (encF n) w0 blk 0 d0) (hs : d0.size = d.size) (S : SW (encF n) w0 blk 0 d w) (hsz : d.size < 4611686018427387904) (M : MPre cf idx a m b d) (h0 : m ≠ a + 1) (h1 : b = m + 1) :
    Calls Try.prog 64 #[.slice (some ⟨blk, 0, none⟩) d.size cap, .int .i64 a, .int .i64 m, .int .i64 b, .func (.func g) #[] cb] w fun e w' => e = .returned (.tuple #[]) ∧ ∃ d', MPost cf idx a b d d' ∧ SW (encF n) w0 blk 0 d' w' := by
  have mixed : Try.prog.follows .mixedOrders = true := by kernel_rfl
  have HC : Aside _ := hcmp
  have S0 : Aside (SW (encF n) w0 blk 0 d w) := S
  have b1 := M.am
  have b2 := M.mb
  have b3 := M.size
  have HM := Lib.hid M
  clear S hcmp M
  have hm1 : ((m : Int) - (a : Int) == 1) = false := by rw [beq_eq_false_iff_ne]; omega
  have hm2 : ((b : Int) - (m : Int) == 1) = true := by rw [show (b : Int) - (m : Int) = 1 by omega]; rfl
  have HE := Lib.hid h1
  clear h1 h0
  go_enter Try.func64, Try.ntmps64
  go_wp2
  go_loopg [14, 15] (m - a) (fun kx s10 s11 wr => ∃ (i j : Nat), s10 = .int .i64 i ∧ s11 = .int .i64 j ∧ a ≤ i ∧ i ≤ j ∧ j ≤ m ∧ j - i ≤ kx ∧ Aside (SW (encF n) w0 blk 0 d wr) ∧ Hid (i = a ∨ ¬ cf d[m]! d[i - 1]! < 0) ∧ Hid (j = m ∨ cf d[m]! d[j]! < 0))
  case atStart => exact ⟨a, m, rfl, rfl, by omega, by omega, by omega, by omega, S0, Lib.hid (.inl rfl), Lib.hid (.inl rfl)⟩
  case round =>
    clear S0
    obtain ⟨i, j, rfl, rfl, hi1, hij, hjb, hkx, S1, F1, F2⟩ := hrel
    by_cases hlt : i < j
    · obtain ⟨h, hh⟩ : ∃ h, h = (i + j) / 2 := ⟨_, rfl⟩
      have ea : (((i : Int) + (j : Int)) / 2).toNat = h := by omega
      have pa : (0 : Int) ≤ ((i : Int) + (j : Int)) / 2 := by omega
      have ba : ((i : Int) + (j : Int)) / 2 < (d.size : Int) := by omega
      have ra : IntKind.i64.wrap (((i : Int) + (j : Int)) / 2) = ((i : Int) + (j : Int)) / 2 := by rw [IntKind.wrap_i64]; omega
      obtain ⟨aN, haN⟩ : ∃ q, q = m := ⟨_, rfl⟩
      have ec : ((m : Int)).toNat = aN := by omega
      have pc : (0 : Int) ≤ (m : Int) := by omega
      have bc : (m : Int) < (d.size : Int) := by omega
      have rc : IntKind.i64.wrap (m : Int) = (m : Int) := by rw [IntKind.wrap_i64]; omega
      obtain ⟨x, hx⟩ : ∃ x, x = d[m]! := ⟨_, rfl⟩
      obtain ⟨y, hy⟩ : ∃ x, x = d[h]! := ⟨_, rfl⟩
      have la := S1.out.cl R hs.symm m (by omega)
      have lb := S1.out.cl R hs.symm h (by omega)
      rw [← haN] at la hx
      rw [← hx] at la
      rw [← hy] at lb
      rw [Nat.zero_add] at la lb
      have hc := S1.out.cmp HC.out hs.symm x y
      have zx : encF n x = .int .i64 (x.val : Int) := rfl
      have zy : encF n y = .int .i64 (y.val : Int) := rfl
      rw [zx] at la
      rw [zy] at lb
      simp only [zx, zy] at hc
      have HXY : Hid (x = d[m]! ∧ y = d[h]! ∧ h = (i + j) / 2) := Lib.hid ⟨by rw [hx, haN], hy, hh⟩
      by_cases hq : cf x y < 0
      · have hd1 : decide (cf x y < 0) = true := decide_eq_true hq
        clear hx hy zx zy hh haN
        go_wp2_with fail
        go_quiet_grown (first | (go_at_fn g; refine Calls.grown_of (hc _ _)))
        have S2 : Aside (SW (encF n) w0 blk 0 d (grow (wr.drewN nq) osq)) := S1.out.grown nq osq
        clear la lb hc S1
        generalize grow (wr.drewN nq) osq = w2 at S2 ⊢
        clear nq osq
        clear ea ec
        go_wp2
        obtain ⟨e1, e2, e3⟩ := HXY.out
        go_roundg (h - i)
        case measure => omega
        case rel => exact ⟨i, h, rfl, by go_num, by omega, by omega, by omega, Nat.le_refl _, S2, F1, Lib.hid (.inr (by rw [← e1, ← e2]; exact hq))⟩
      · have hd1 : decide (cf x y < 0) = false := decide_eq_false hq
        clear hx hy zx zy hh haN
        go_wp2_with fail
        go_quiet_grown (first | (go_at_fn g; refine Calls.grown_of (hc _ _)))
        have S2 : Aside (SW (encF n) w0 blk 0 d (grow (wr.drewN nq) osq)) := S1.out.grown nq osq
        clear la lb hc S1
        generalize grow (wr.drewN nq) osq = w2 at S2 ⊢
        clear nq osq
        clear ea ec
        go_wp2
        obtain ⟨e1, e2, e3⟩ := HXY.out
        go_roundg (j - (h + 1))
        case measure => omega
        case rel => exact ⟨h + 1, j, by go_num, rfl, by omega, by omega, hjb, Nat.le_refl _, S2, Lib.hid (.inr (by rw [Nat.add_sub_cancel, ← e1, ← e2]; exact hq)), F2⟩
    · have hje : i = j := by omega
      subst hje
      have f1 := F1.out
      have f2 := F2.out
      have P := Lib.hid (one_right C HM.out HE.out hi1 hjb f1 f2)
      clear f1 f2 F1 F2 HC
      go_wp2
      go_loopg [17] (m - i) (fun kx s13 wq => ∃ (k : Nat) (dk : Array (Fin (n + 1))), s13 = .int .i64 k ∧ i ≤ k ∧ k ≤ m ∧ k - i ≤ kx ∧ dk.size = d.size ∧ Aside (SW (encF n) w0 blk 0 dk wq) ∧ Hid (dk = shD d m (m - k)))
      case atStart => exact ⟨m, d, rfl, by omega, by omega, by omega, rfl, S1, Lib.hid (by rw [Nat.sub_self]; rfl)⟩
      case round =>
        clear S1
        obtain ⟨k, dk, rfl, hk1, hk2, hkx2, hds, S1, HD⟩ := hrel
        by_cases hlt2 : i < k
        · obtain ⟨iN, hiN⟩ : ∃ q, q = k := ⟨_, rfl⟩
          obtain ⟨jN, hjN⟩ : ∃ q, q = k - 1 := ⟨_, rfl⟩
          have ea : ((k : Int)).toNat = iN := by omega
          have pa : (0 : Int) ≤ (k : Int) := by omega
          have ba : (k : Int) < (d.size : Int) := by omega
          have ra : IntKind.i64.wrap (k : Int) = (k : Int) := by rw [IntKind.wrap_i64]; omega
          have ec : ((k : Int) - 1).toNat = jN := by omega
          have pc : (0 : Int) ≤ (k : Int) - 1 := by omega
          have bc : (k : Int) - 1 < (d.size : Int) := by omega
          have rc : IntKind.i64.wrap ((k : Int) - 1) = (k : Int) - 1 := by rw [IntKind.wrap_i64]; omega
          obtain ⟨x, hx⟩ : ∃ x, x = dk[iN]! := ⟨_, rfl⟩
          obtain ⟨y, hy⟩ : ∃ x, x = dk[jN]! := ⟨_, rfl⟩
          have S2 : Aside (SW (encF n) w0 blk 0 (swp dk iN jN) ((wr.setCell ⟨blk, 0 + iN, none⟩ (encF n y)).setCell ⟨blk, 0 + jN, none⟩ (encF n x)).drew) := by rw [hx, hy]; exact S1.out.swapped R iN jN (by omega) (by omega)
          have ca := S1.out.c1 R (by omega) iN (by omega)
          have cb' := S1.out.c1 R (by omega) jN (by omega)
          have fa := S1.out.f1 R (by omega) iN (by omega)
          have fb := S1.out.f1 R (by omega) jN (by omega)
          obtain ⟨u, cc⟩ := S1.out.c2 R (by omega) iN jN (by omega) (by omega) (encF n y)
          rw [← hx] at ca
          rw [← hy] at cb'
          have zx : encF n x = .int .i64 (x.val : Int) := rfl
          have zy : encF n y = .int .i64 (y.val : Int) := rfl
          rw [zx] at ca S2
          rw [zy] at cb' cc S2
          rw [Nat.zero_add] at ca cb' fa fb cc
          rw [Nat.zero_add] at cc
          rw [Nat.zero_add, Nat.zero_add] at S2
          have HX : Hid (iN = k ∧ jN = k - 1) := Lib.hid ⟨hiN, hjN⟩
          clear S1 hx hy hiN hjN zx zy
          go_wp2_with fail
          go_big_region_o
          clear ca cb' cc fa fb
          generalize ((wr.setCell { block := blk, off := iN } (Value.int .i64 (y.val : Int))).setCell { block := blk, off := jN } (Value.int .i64 (x.val : Int))).drew = w2 at S2 ⊢
          clear ea ec
          go_wp2
          go_roundg (k - 1 - i)
          case measure => omega
          case rel =>
            have hD := HD.out
            obtain ⟨e1, e2⟩ := HX.out
            subst e1 e2
            exact ⟨iN - 1, swp dk iN (iN - 1), by go_num, by omega, by omega, Nat.le_refl _, by rw [size_swp]; exact hds, S2, Lib.hid (by
              rw [hD, show m - (iN - 1) = (m - iN) + 1 by omega]
              show _ = swp (shD d m (m - iN)) (m - (m - iN)) (m - (m - iN) - 1)
              rw [show m - (m - iN) = iN by omega])⟩
        · have hie : k = i := by omega
          go_wp2
          refine bodyPost_ret (results_none rfl _ _ _) rfl ?_
          have hD := HD.out
          exact ⟨rfl, dk, by rw [hD, hie]; exact P.out, S1.out⟩
end Go.Proofs.Ytnlcpgeapgnkgaa.H
