/- The walk of symMerge, general case, the middle in the right part. -/
import Derived.Test.YtaoflcmjmhfblaaSymG1K
namespace Go.Proofs.Ytaoflcmjmhfblaa.HK
open Go.Proofs.Ytaoflcmjmhfblaa.H
variable {Pg : Program} {α : Type} [Inhabited α] {kc : Nat}
open Go.RowKit Go.Proofs.YtaoflcmjmhfblaaW.PrintWords Go.Proofs.YtaoflcmjmhfblaaW.PrintLast Go.Proofs.YtaoflcmjmhfblaaW.PrintMore
open Go.Shelf Go.Sort
set_option linter.unusedVariables false
set_option linter.unusedSimpArgs false

set_option maxHeartbeats 8000000 in
set_option maxRecDepth 1000000 in
theorem symG2_calls (LL : LaysK Pg kc) (enc : α → List Value) (g blk off cap a m b mid : Nat) (cb : Array Value) (cf : α → α → Int) (idx : α → Nat) (C : CfOk cf) (d0 d : Array α) (w0 w : World)
    (eg : ∀ args w, (callFunc g args).run Pg w = .ok (.enter g args) w) (hcmp : CmpLays Pg g cb enc kc cf blk off d0.size w0)
    (R : RowK enc kc w0 blk off d0) (hs : d0.size = d.size) (S : SWK enc kc w0 blk off d w) (hsz : d.size < 4611686018427387904) (M : MPre cf idx a m b d) (h1 : m ≠ a + 1) (h2 : b ≠ m + 1)
    (hmid : mid = (a + b) / 2) (hway : m ≤ mid)
    (IH : ∀ (a' m' b' : Nat) (d' : Array α) (w' : World), b' - a' < b - a → d.size = d'.size → SWK enc kc w0 blk off d' w' → MPre cf idx a' m' b' d' → SymC Pg kc enc g blk off cap cb cf idx d.size w0 a' m' b' d' w') :
    SymC Pg kc enc g blk off cap cb cf idx d.size w0 a m b d w := by
  have mixed := LL.mixed; have t0 := LL.t0; have a0 := LL.a0; have z0 := LL.z0; have v0 := LL.v0; have t3 := LL.t3; have a3 := LL.a3; have z3 := LL.z3; have v3 := LL.v3; have t4 := LL.t4; have a4 := LL.a4; have z4 := LL.z4; have v4 := LL.v4; have t22 := LL.t22; have a22 := LL.a22; have z22 := LL.z22; have v22 := LL.v22; have t25 := LL.t25; have a25 := LL.a25; have z25 := LL.z25; have v25 := LL.v25; have tu := LL.tu; have au := LL.au; have zu := LL.zu; have vu := LL.vu; have aE := LL.aE; have zE := LL.zE; have ee1 := LL.esw; have ee2 := LL.erot; have ee3 := LL.esym; have ee4 := LL.est; have ee5 := LL.eins
  obtain ⟨s0, hs0⟩ : ∃ q, q = a := ⟨_, rfl⟩
  obtain ⟨r0, hr0⟩ : ∃ q, q = m := ⟨_, rfl⟩
  have HC : Aside _ := hcmp
  have S0 : Aside (SWK enc kc w0 blk off d w) := S
  have b1 := M.am
  have b2 := M.mb
  have b3 := M.size
  have HM := Lib.hid M
  have HIH := Lib.hid IH
  have hm1 : ((m : Int) - (a : Int) == 1) = false := by rw [beq_eq_false_iff_ne]; omega
  have hm2 : ((b : Int) - (m : Int) == 1) = false := by rw [beq_eq_false_iff_ne]; omega
  have q1 : 2 * mid ≤ a + b := by omega
  have q2 : a + b ≤ 2 * mid + 1 := by omega
  have u1 : s0 ≤ a := by omega
  have u2 : a ≤ s0 := by omega
  have u3 : r0 ≤ m := by omega
  have u4 : m ≤ r0 := by omega
  have HMID := Lib.hid hmid
  have zm : ((a : Int) + (b : Int)) / 2 = (mid : Int) := by omega
  clear S hcmp M h1 h2 IH hs0 hr0 hmid
  unfold SymC
  go_enter LL.fsym, Try.ntmps171
  go_wp2
  obtain ⟨pz, hpz⟩ : ∃ q, q = (mid : Int) + (m : Int) - 1 := ⟨_, rfl⟩
  rw [← hpz, show decide (mid < m) = false from decide_eq_false (by omega)]
  have pl : pz + 1 ≤ (mid : Int) + (m : Int) := by omega
  have pu : (mid : Int) + (m : Int) ≤ pz + 1 := by omega
  clear zm hpz
  go_loopg [20, 21] (r0 - s0) (fun kx s20 s21 wr => ∃ (s r : Nat), s20 = .int .i64 s ∧ s21 = .int .i64 r ∧ s0 ≤ s ∧ s ≤ r ∧ r ≤ r0 ∧ r - s ≤ kx ∧ Aside (SWK enc kc w0 blk off d wr) ∧ Hid (s = s0 ∨ ¬ cf d[mid + m - s]! d[s - 1]! < 0) ∧ Hid (r = r0 ∨ cf d[mid + m - r - 1]! d[r]! < 0))
  case atStart => exact ⟨s0, r0, by go_num, by go_num, by omega, by omega, by omega, by omega, S0, Lib.hid (.inl rfl), Lib.hid (.inl rfl)⟩
  case round =>
    clear S0
    obtain ⟨i, j, rfl, rfl, hi1, hij, hjb, hkx, S1, F1, F2⟩ := hrel
    by_cases hlt : i < j
    · obtain ⟨h, hh⟩ : ∃ h, h = (i + j) / 2 := ⟨_, rfl⟩
      have ea : (((i : Int) + (j : Int)) / 2).toNat = h := by omega
      have pa : (0 : Int) ≤ ((i : Int) + (j : Int)) / 2 := by omega
      have ba : ((i : Int) + (j : Int)) / 2 < (d.size : Int) := by omega
      have ra : IntKind.i64.wrap (((i : Int) + (j : Int)) / 2) = ((i : Int) + (j : Int)) / 2 := by rw [IntKind.wrap_i64]; omega
      obtain ⟨aN, haN⟩ : ∃ q, q = mid + m - 1 - h := ⟨_, rfl⟩
      have ec : (pz - ((i : Int) + (j : Int)) / 2).toNat = aN := by omega
      have pc : (0 : Int) ≤ pz - ((i : Int) + (j : Int)) / 2 := by omega
      have pd : ((i : Int) + (j : Int)) / 2 ≤ pz := by omega
      have bc : pz - ((i : Int) + (j : Int)) / 2 < (d.size : Int) := by omega
      have rc : IntKind.i64.wrap (pz - ((i : Int) + (j : Int)) / 2) = pz - ((i : Int) + (j : Int)) / 2 := by rw [IntKind.wrap_i64]; omega
      obtain ⟨x, hx⟩ : ∃ x, x = d[aN]! := ⟨_, rfl⟩
      obtain ⟨y, hy⟩ : ∃ x, x = d[h]! := ⟨_, rfl⟩
      have la := S1.out.ld R hs.symm Pg aN (by omega)
      have lb := S1.out.ld R hs.symm Pg h (by omega)
      rw [← hx] at la
      rw [← hy] at lb
      have hc := S1.out.cmp HC.out hs.symm x y
      have HXY : Hid (x = d[aN]! ∧ y = d[h]! ∧ h = (i + j) / 2 ∧ aN = mid + m - 1 - h) := Lib.hid ⟨hx, hy, hh, haN⟩
      by_cases hq : cf x y < 0
      · have hd1 : decide (cf x y < 0) = true := decide_eq_true hq
        clear hx hy hh haN
        go_wp2_with fail
        go_quiet_grown (first | (go_at_fn g; refine Calls.grown_of (hc _ _)))
        have S2 : Aside (SWK enc kc w0 blk off d (grow (wr.drewN nq) osq)) := S1.out.grown nq osq
        clear la lb hc S1
        generalize grow (wr.drewN nq) osq = w2 at S2 ⊢
        clear nq osq
        clear ea ec
        go_wp2
        obtain ⟨e1, e2, e3, e4⟩ := HXY.out
        go_roundg (h - i)
        case measure => omega
        case rel => exact ⟨i, h, rfl, by go_num, by omega, by omega, by omega, Nat.le_refl _, S2, F1, Lib.hid (.inr (by rw [show mid + m - h - 1 = aN by omega, ← e1, ← e2]; exact hq))⟩
      · have hd1 : decide (cf x y < 0) = false := decide_eq_false hq
        clear hx hy hh haN
        go_wp2_with fail
        go_quiet_grown (first | (go_at_fn g; refine Calls.grown_of (hc _ _)))
        have S2 : Aside (SWK enc kc w0 blk off d (grow (wr.drewN nq) osq)) := S1.out.grown nq osq
        clear la lb hc S1
        generalize grow (wr.drewN nq) osq = w2 at S2 ⊢
        clear nq osq
        clear ea ec
        go_wp2
        obtain ⟨e1, e2, e3, e4⟩ := HXY.out
        go_roundg (j - (h + 1))
        case measure => omega
        case rel => exact ⟨h + 1, j, by go_num, rfl, by omega, by omega, hjb, Nat.le_refl _, S2, Lib.hid (.inr (by rw [Nat.add_sub_cancel, show mid + m - (h + 1) = aN by omega, ← e1, ← e2]; exact hq)), F2⟩
    · have hje : i = j := by omega
      subst hje
      obtain ⟨e, he⟩ : ∃ e, e = mid + m - i := ⟨_, rfl⟩
      have f1 := F1.out
      have f2 := F2.out
      rw [← he] at f1 f2
      have hp : ∀ d1, PermIn a b d d1 → (∀ k, d1[k]! = rotF i m e d k) → SymI cf idx a mid b i e d d1 := fun d1 p r => SymI.of C HM.out HMID.out he (by omega) hi1 hjb f1 f2 p r
      have HP := Lib.hid hp
      clear f1 f2 F1 F2 HC hp
      have ze : (e : Int) = (mid : Int) + (m : Int) - (i : Int) := by omega
      have o1 : i ≤ mid := by omega
      have o2 : mid ≤ e := by omega
      have o3 : e ≤ b := by omega
      have o4 : a ≤ i := by omega
      have o5 : i ≤ m := by omega
      have o6 : m ≤ e := by omega
      have cA : m ≤ i ∨ (i < m ∧ e ≤ m) ∨ (i < m ∧ m < e) := by omega
      have cB : i ≤ a ∨ (a < i ∧ mid ≤ i) ∨ (a < i ∧ i < mid) := by omega
      have cC : e ≤ mid ∨ (mid < e ∧ b ≤ e) ∨ (mid < e ∧ e < b) := by omega
      have KR := Lib.hid (fun (h1 : i < m) (h2 : m < e) => rotate_calls LL enc g blk off cap i m e cb d0 d w0 wr R hs S1.out h1 h2 (by omega) hsz)
      rw [ze] at KR
      have KI := HIH.out
      have KB := Lib.hid (fun (d1 : Array α) (w1 : World) => KI a i mid d1 w1)
      have KC := Lib.hid (fun (d1 : Array α) (w1 : World) => KI mid e b d1 w1)
      unfold SymC at KB KC
      rw [ze] at KC
      clear KI HIH
      rcases cA with hA | ⟨hA1, hA2⟩ | ⟨hA1, hA2⟩
      · have hyA : True := trivial
        have I1 := Lib.hid (HP.out d (permIn_refl _ _ _) (fun k => by rw [show i = m by omega]; exact (rotF_left d m e k).symm))
        rcases cB with hB | ⟨hB1, hB2⟩ | ⟨hB1, hB2⟩
        · rcases cC with hC | ⟨hC1, hC2⟩ | ⟨hC1, hC2⟩
          · first
              | (exfalso; omega)
              | (go_wp2_with (fail)
                 all_goals first
                   | (exfalso; omega)
                   | (go_end0; exact ⟨rfl, d, I1.out.fin (I1.out.half (by omega)) (I1.out.half2 (I1.out.half (by omega)) (by omega)), S1.out⟩))
          · first
              | (exfalso; omega)
              | (go_wp2_with (fail)
                 all_goals first
                   | (exfalso; omega)
                   | (go_end0; exact ⟨rfl, d, I1.out.fin (I1.out.half (by omega)) (I1.out.half2 (I1.out.half (by omega)) (by omega)), S1.out⟩))
          · first
              | (exfalso; omega)
              | (go_wp2_with (first | (go_at_fn 171; (with_reducible refine (KC.out d _ (by omega) rfl S1.out (I1.out.pre2 (I1.out.half (by omega)) (by omega) (by omega))).mono ?_); rintro _ w4 ⟨rfl, d3, P3, hw4⟩; have T3 : Aside (SWK enc kc w0 blk off d3 w4) := hw4; have PQ := Lib.hid P3; clear hw4 P3))
                 all_goals first
                   | (exfalso; omega)
                   | (go_end0; exact ⟨rfl, d3, I1.out.fin (I1.out.half (by omega)) PQ.out, T3.out⟩))
        · rcases cC with hC | ⟨hC1, hC2⟩ | ⟨hC1, hC2⟩
          · first
              | (exfalso; omega)
              | (go_wp2_with (fail)
                 all_goals first
                   | (exfalso; omega)
                   | (go_end0; exact ⟨rfl, d, I1.out.fin (I1.out.half (by omega)) (I1.out.half2 (I1.out.half (by omega)) (by omega)), S1.out⟩))
          · first
              | (exfalso; omega)
              | (go_wp2_with (fail)
                 all_goals first
                   | (exfalso; omega)
                   | (go_end0; exact ⟨rfl, d, I1.out.fin (I1.out.half (by omega)) (I1.out.half2 (I1.out.half (by omega)) (by omega)), S1.out⟩))
          · first
              | (exfalso; omega)
              | (go_wp2_with (first | (go_at_fn 171; (with_reducible refine (KC.out d _ (by omega) rfl S1.out (I1.out.pre2 (I1.out.half (by omega)) (by omega) (by omega))).mono ?_); rintro _ w4 ⟨rfl, d3, P3, hw4⟩; have T3 : Aside (SWK enc kc w0 blk off d3 w4) := hw4; have PQ := Lib.hid P3; clear hw4 P3))
                 all_goals first
                   | (exfalso; omega)
                   | (go_end0; exact ⟨rfl, d3, I1.out.fin (I1.out.half (by omega)) PQ.out, T3.out⟩))
        · rcases cC with hC | ⟨hC1, hC2⟩ | ⟨hC1, hC2⟩
          · first
              | (exfalso; omega)
              | (go_wp2_with (first | (go_at_fn 171; (with_reducible refine (KB.out d _ (by omega) rfl S1.out (I1.out.pre1 (by omega) (by omega))).mono ?_); rintro _ w3 ⟨rfl, d2, P2, hw3⟩; have T2 : Aside (SWK enc kc w0 blk off d2 w3) := hw3; have PP := Lib.hid P2; have z2 := P2.1.1; clear hw3 P2))
                 all_goals first
                   | (exfalso; omega)
                   | (go_end0; exact ⟨rfl, d2, I1.out.fin PP.out (I1.out.half2 PP.out (by omega)), T2.out⟩))
          · first
              | (exfalso; omega)
              | (go_wp2_with (first | (go_at_fn 171; (with_reducible refine (KB.out d _ (by omega) rfl S1.out (I1.out.pre1 (by omega) (by omega))).mono ?_); rintro _ w3 ⟨rfl, d2, P2, hw3⟩; have T2 : Aside (SWK enc kc w0 blk off d2 w3) := hw3; have PP := Lib.hid P2; have z2 := P2.1.1; clear hw3 P2))
                 all_goals first
                   | (exfalso; omega)
                   | (go_end0; exact ⟨rfl, d2, I1.out.fin PP.out (I1.out.half2 PP.out (by omega)), T2.out⟩))
          · first
              | (exfalso; omega)
              | (go_wp2_with (first | (go_at_fn 171; (with_reducible refine (KB.out d _ (by omega) rfl S1.out (I1.out.pre1 (by omega) (by omega))).mono ?_); rintro _ w3 ⟨rfl, d2, P2, hw3⟩; have T2 : Aside (SWK enc kc w0 blk off d2 w3) := hw3; have PP := Lib.hid P2; have z2 := P2.1.1; clear hw3 P2) | (go_at_fn 171; (with_reducible refine (KC.out d2 _ (by omega) (by omega) T2.out (I1.out.pre2 PP.out (by omega) (by omega))).mono ?_); rintro _ w4 ⟨rfl, d3, P3, hw4⟩; have T3 : Aside (SWK enc kc w0 blk off d3 w4) := hw4; have PQ := Lib.hid P3; clear hw4 P3))
                 all_goals first
                   | (exfalso; omega)
                   | (go_end0; exact ⟨rfl, d3, I1.out.fin PP.out PQ.out, T3.out⟩))
      · have hyA : True := trivial
        have I1 := Lib.hid (HP.out d (permIn_refl _ _ _) (fun k => by rw [show e = m by omega]; exact (rotF_right d i m k).symm))
        rcases cB with hB | ⟨hB1, hB2⟩ | ⟨hB1, hB2⟩
        · rcases cC with hC | ⟨hC1, hC2⟩ | ⟨hC1, hC2⟩
          · first
              | (exfalso; omega)
              | (go_wp2_with (fail)
                 all_goals first
                   | (exfalso; omega)
                   | (go_end0; exact ⟨rfl, d, I1.out.fin (I1.out.half (by omega)) (I1.out.half2 (I1.out.half (by omega)) (by omega)), S1.out⟩))
          · first
              | (exfalso; omega)
              | (go_wp2_with (fail)
                 all_goals first
                   | (exfalso; omega)
                   | (go_end0; exact ⟨rfl, d, I1.out.fin (I1.out.half (by omega)) (I1.out.half2 (I1.out.half (by omega)) (by omega)), S1.out⟩))
          · first
              | (exfalso; omega)
              | (go_wp2_with (first | (go_at_fn 171; (with_reducible refine (KC.out d _ (by omega) rfl S1.out (I1.out.pre2 (I1.out.half (by omega)) (by omega) (by omega))).mono ?_); rintro _ w4 ⟨rfl, d3, P3, hw4⟩; have T3 : Aside (SWK enc kc w0 blk off d3 w4) := hw4; have PQ := Lib.hid P3; clear hw4 P3))
                 all_goals first
                   | (exfalso; omega)
                   | (go_end0; exact ⟨rfl, d3, I1.out.fin (I1.out.half (by omega)) PQ.out, T3.out⟩))
        · rcases cC with hC | ⟨hC1, hC2⟩ | ⟨hC1, hC2⟩
          · first
              | (exfalso; omega)
              | (go_wp2_with (fail)
                 all_goals first
                   | (exfalso; omega)
                   | (go_end0; exact ⟨rfl, d, I1.out.fin (I1.out.half (by omega)) (I1.out.half2 (I1.out.half (by omega)) (by omega)), S1.out⟩))
          · first
              | (exfalso; omega)
              | (go_wp2_with (fail)
                 all_goals first
                   | (exfalso; omega)
                   | (go_end0; exact ⟨rfl, d, I1.out.fin (I1.out.half (by omega)) (I1.out.half2 (I1.out.half (by omega)) (by omega)), S1.out⟩))
          · first
              | (exfalso; omega)
              | (go_wp2_with (first | (go_at_fn 171; (with_reducible refine (KC.out d _ (by omega) rfl S1.out (I1.out.pre2 (I1.out.half (by omega)) (by omega) (by omega))).mono ?_); rintro _ w4 ⟨rfl, d3, P3, hw4⟩; have T3 : Aside (SWK enc kc w0 blk off d3 w4) := hw4; have PQ := Lib.hid P3; clear hw4 P3))
                 all_goals first
                   | (exfalso; omega)
                   | (go_end0; exact ⟨rfl, d3, I1.out.fin (I1.out.half (by omega)) PQ.out, T3.out⟩))
        · rcases cC with hC | ⟨hC1, hC2⟩ | ⟨hC1, hC2⟩
          · first
              | (exfalso; omega)
              | (go_wp2_with (first | (go_at_fn 171; (with_reducible refine (KB.out d _ (by omega) rfl S1.out (I1.out.pre1 (by omega) (by omega))).mono ?_); rintro _ w3 ⟨rfl, d2, P2, hw3⟩; have T2 : Aside (SWK enc kc w0 blk off d2 w3) := hw3; have PP := Lib.hid P2; have z2 := P2.1.1; clear hw3 P2))
                 all_goals first
                   | (exfalso; omega)
                   | (go_end0; exact ⟨rfl, d2, I1.out.fin PP.out (I1.out.half2 PP.out (by omega)), T2.out⟩))
          · first
              | (exfalso; omega)
              | (go_wp2_with (first | (go_at_fn 171; (with_reducible refine (KB.out d _ (by omega) rfl S1.out (I1.out.pre1 (by omega) (by omega))).mono ?_); rintro _ w3 ⟨rfl, d2, P2, hw3⟩; have T2 : Aside (SWK enc kc w0 blk off d2 w3) := hw3; have PP := Lib.hid P2; have z2 := P2.1.1; clear hw3 P2))
                 all_goals first
                   | (exfalso; omega)
                   | (go_end0; exact ⟨rfl, d2, I1.out.fin PP.out (I1.out.half2 PP.out (by omega)), T2.out⟩))
          · first
              | (exfalso; omega)
              | (go_wp2_with (first | (go_at_fn 171; (with_reducible refine (KB.out d _ (by omega) rfl S1.out (I1.out.pre1 (by omega) (by omega))).mono ?_); rintro _ w3 ⟨rfl, d2, P2, hw3⟩; have T2 : Aside (SWK enc kc w0 blk off d2 w3) := hw3; have PP := Lib.hid P2; have z2 := P2.1.1; clear hw3 P2) | (go_at_fn 171; (with_reducible refine (KC.out d2 _ (by omega) (by omega) T2.out (I1.out.pre2 PP.out (by omega) (by omega))).mono ?_); rintro _ w4 ⟨rfl, d3, P3, hw4⟩; have T3 : Aside (SWK enc kc w0 blk off d3 w4) := hw4; have PQ := Lib.hid P3; clear hw4 P3))
                 all_goals first
                   | (exfalso; omega)
                   | (go_end0; exact ⟨rfl, d3, I1.out.fin PP.out PQ.out, T3.out⟩))
      · have hyA : True := trivial
        rcases cB with hB | ⟨hB1, hB2⟩ | ⟨hB1, hB2⟩
        · rcases cC with hC | ⟨hC1, hC2⟩ | ⟨hC1, hC2⟩
          · first
              | (exfalso; omega)
              | (go_wp2_with (first | (go_at_fn 174; refine (KR.out (by omega) (by omega)).mono ?_; rintro _ w2 ⟨rfl, d1, ⟨p1, r1⟩, hw2⟩; have I1 := Lib.hid (HP.out d1 (permIn_mono _ _ i e a b (by omega) (by omega) (by omega) p1) r1); have T1 : Aside (SWK enc kc w0 blk off d1 w2) := hw2; have z1 := p1.1; clear hw2 p1 r1))
                 all_goals first
                   | (exfalso; omega)
                   | (go_end0; exact ⟨rfl, d1, I1.out.fin (I1.out.half (by omega)) (I1.out.half2 (I1.out.half (by omega)) (by omega)), T1.out⟩))
          · first
              | (exfalso; omega)
              | (go_wp2_with (first | (go_at_fn 174; refine (KR.out (by omega) (by omega)).mono ?_; rintro _ w2 ⟨rfl, d1, ⟨p1, r1⟩, hw2⟩; have I1 := Lib.hid (HP.out d1 (permIn_mono _ _ i e a b (by omega) (by omega) (by omega) p1) r1); have T1 : Aside (SWK enc kc w0 blk off d1 w2) := hw2; have z1 := p1.1; clear hw2 p1 r1))
                 all_goals first
                   | (exfalso; omega)
                   | (go_end0; exact ⟨rfl, d1, I1.out.fin (I1.out.half (by omega)) (I1.out.half2 (I1.out.half (by omega)) (by omega)), T1.out⟩))
          · first
              | (exfalso; omega)
              | (go_wp2_with (first | (go_at_fn 174; refine (KR.out (by omega) (by omega)).mono ?_; rintro _ w2 ⟨rfl, d1, ⟨p1, r1⟩, hw2⟩; have I1 := Lib.hid (HP.out d1 (permIn_mono _ _ i e a b (by omega) (by omega) (by omega) p1) r1); have T1 : Aside (SWK enc kc w0 blk off d1 w2) := hw2; have z1 := p1.1; clear hw2 p1 r1) | (go_at_fn 171; (with_reducible refine (KC.out d1 _ (by omega) (by omega) T1.out (I1.out.pre2 (I1.out.half (by omega)) (by omega) (by omega))).mono ?_); rintro _ w4 ⟨rfl, d3, P3, hw4⟩; have T3 : Aside (SWK enc kc w0 blk off d3 w4) := hw4; have PQ := Lib.hid P3; clear hw4 P3))
                 all_goals first
                   | (exfalso; omega)
                   | (go_end0; exact ⟨rfl, d3, I1.out.fin (I1.out.half (by omega)) PQ.out, T3.out⟩))
        · rcases cC with hC | ⟨hC1, hC2⟩ | ⟨hC1, hC2⟩
          · first
              | (exfalso; omega)
              | (go_wp2_with (first | (go_at_fn 174; refine (KR.out (by omega) (by omega)).mono ?_; rintro _ w2 ⟨rfl, d1, ⟨p1, r1⟩, hw2⟩; have I1 := Lib.hid (HP.out d1 (permIn_mono _ _ i e a b (by omega) (by omega) (by omega) p1) r1); have T1 : Aside (SWK enc kc w0 blk off d1 w2) := hw2; have z1 := p1.1; clear hw2 p1 r1))
                 all_goals first
                   | (exfalso; omega)
                   | (go_end0; exact ⟨rfl, d1, I1.out.fin (I1.out.half (by omega)) (I1.out.half2 (I1.out.half (by omega)) (by omega)), T1.out⟩))
          · first
              | (exfalso; omega)
              | (go_wp2_with (first | (go_at_fn 174; refine (KR.out (by omega) (by omega)).mono ?_; rintro _ w2 ⟨rfl, d1, ⟨p1, r1⟩, hw2⟩; have I1 := Lib.hid (HP.out d1 (permIn_mono _ _ i e a b (by omega) (by omega) (by omega) p1) r1); have T1 : Aside (SWK enc kc w0 blk off d1 w2) := hw2; have z1 := p1.1; clear hw2 p1 r1))
                 all_goals first
                   | (exfalso; omega)
                   | (go_end0; exact ⟨rfl, d1, I1.out.fin (I1.out.half (by omega)) (I1.out.half2 (I1.out.half (by omega)) (by omega)), T1.out⟩))
          · first
              | (exfalso; omega)
              | (go_wp2_with (first | (go_at_fn 174; refine (KR.out (by omega) (by omega)).mono ?_; rintro _ w2 ⟨rfl, d1, ⟨p1, r1⟩, hw2⟩; have I1 := Lib.hid (HP.out d1 (permIn_mono _ _ i e a b (by omega) (by omega) (by omega) p1) r1); have T1 : Aside (SWK enc kc w0 blk off d1 w2) := hw2; have z1 := p1.1; clear hw2 p1 r1) | (go_at_fn 171; (with_reducible refine (KC.out d1 _ (by omega) (by omega) T1.out (I1.out.pre2 (I1.out.half (by omega)) (by omega) (by omega))).mono ?_); rintro _ w4 ⟨rfl, d3, P3, hw4⟩; have T3 : Aside (SWK enc kc w0 blk off d3 w4) := hw4; have PQ := Lib.hid P3; clear hw4 P3))
                 all_goals first
                   | (exfalso; omega)
                   | (go_end0; exact ⟨rfl, d3, I1.out.fin (I1.out.half (by omega)) PQ.out, T3.out⟩))
        · rcases cC with hC | ⟨hC1, hC2⟩ | ⟨hC1, hC2⟩
          · first
              | (exfalso; omega)
              | (go_wp2_with (first | (go_at_fn 174; refine (KR.out (by omega) (by omega)).mono ?_; rintro _ w2 ⟨rfl, d1, ⟨p1, r1⟩, hw2⟩; have I1 := Lib.hid (HP.out d1 (permIn_mono _ _ i e a b (by omega) (by omega) (by omega) p1) r1); have T1 : Aside (SWK enc kc w0 blk off d1 w2) := hw2; have z1 := p1.1; clear hw2 p1 r1) | (go_at_fn 171; (with_reducible refine (KB.out d1 _ (by omega) (by omega) T1.out (I1.out.pre1 (by omega) (by omega))).mono ?_); rintro _ w3 ⟨rfl, d2, P2, hw3⟩; have T2 : Aside (SWK enc kc w0 blk off d2 w3) := hw3; have PP := Lib.hid P2; have z2 := P2.1.1; clear hw3 P2))
                 all_goals first
                   | (exfalso; omega)
                   | (go_end0; exact ⟨rfl, d2, I1.out.fin PP.out (I1.out.half2 PP.out (by omega)), T2.out⟩))
          · first
              | (exfalso; omega)
              | (go_wp2_with (first | (go_at_fn 174; refine (KR.out (by omega) (by omega)).mono ?_; rintro _ w2 ⟨rfl, d1, ⟨p1, r1⟩, hw2⟩; have I1 := Lib.hid (HP.out d1 (permIn_mono _ _ i e a b (by omega) (by omega) (by omega) p1) r1); have T1 : Aside (SWK enc kc w0 blk off d1 w2) := hw2; have z1 := p1.1; clear hw2 p1 r1) | (go_at_fn 171; (with_reducible refine (KB.out d1 _ (by omega) (by omega) T1.out (I1.out.pre1 (by omega) (by omega))).mono ?_); rintro _ w3 ⟨rfl, d2, P2, hw3⟩; have T2 : Aside (SWK enc kc w0 blk off d2 w3) := hw3; have PP := Lib.hid P2; have z2 := P2.1.1; clear hw3 P2))
                 all_goals first
                   | (exfalso; omega)
                   | (go_end0; exact ⟨rfl, d2, I1.out.fin PP.out (I1.out.half2 PP.out (by omega)), T2.out⟩))
          · first
              | (exfalso; omega)
              | (go_wp2_with (first | (go_at_fn 174; refine (KR.out (by omega) (by omega)).mono ?_; rintro _ w2 ⟨rfl, d1, ⟨p1, r1⟩, hw2⟩; have I1 := Lib.hid (HP.out d1 (permIn_mono _ _ i e a b (by omega) (by omega) (by omega) p1) r1); have T1 : Aside (SWK enc kc w0 blk off d1 w2) := hw2; have z1 := p1.1; clear hw2 p1 r1) | (go_at_fn 171; (with_reducible refine (KB.out d1 _ (by omega) (by omega) T1.out (I1.out.pre1 (by omega) (by omega))).mono ?_); rintro _ w3 ⟨rfl, d2, P2, hw3⟩; have T2 : Aside (SWK enc kc w0 blk off d2 w3) := hw3; have PP := Lib.hid P2; have z2 := P2.1.1; clear hw3 P2) | (go_at_fn 171; (with_reducible refine (KC.out d2 _ (by omega) (by omega) T2.out (I1.out.pre2 PP.out (by omega) (by omega))).mono ?_); rintro _ w4 ⟨rfl, d3, P3, hw4⟩; have T3 : Aside (SWK enc kc w0 blk off d3 w4) := hw4; have PQ := Lib.hid P3; clear hw4 P3))
                 all_goals first
                   | (exfalso; omega)
                   | (go_end0; exact ⟨rfl, d3, I1.out.fin PP.out PQ.out, T3.out⟩))
end Go.Proofs.Ytaoflcmjmhfblaa.HK
