/- The walk of stableCmpFunc and SortStableFunc at any number of places. -/
import Derived.Test.YtaoflcmjmhfblaaStabP
import Derived.Test.YtaoflcmjmhfblaaSymMK
namespace Go.Proofs.Ytaoflcmjmhfblaa.HK
open Go.Proofs.Ytaoflcmjmhfblaa.H
variable {Pg : Program} {α : Type} [Inhabited α] {kc : Nat}
open Go.RowKit Go.Proofs.YtaoflcmjmhfblaaW.PrintWords Go.Proofs.YtaoflcmjmhfblaaW.PrintLast Go.Proofs.YtaoflcmjmhfblaaW.PrintMore
open Go.Shelf Go.Sort
set_option linter.unusedVariables false
set_option linter.unusedSimpArgs false

set_option maxHeartbeats 4000000 in
set_option maxRecDepth 1000000 in
theorem stableN_calls (LL : LaysK Pg kc) (enc : α → List Value) (g blk off cap : Nat) (cb : Array Value) (cf : α → α → Int) (idx : α → Nat) (C : CfOk cf) (d : Array α) (w : World)
    (eg : ∀ args w, (callFunc g args).run Pg w = .ok (.enter g args) w) (hcmp : CmpLays Pg g cb enc kc cf blk off d.size w)
    (hk : ∀ x, (enc x).length = kc) (h1 : ∀ x, ∀ v ∈ enc x, v.oneCell' = true) (hH : HoldsK enc kc w blk off d) (hblk : blk < w.heap.size) (hsz : d.size < 1152921504606846976) (hid : ∀ k, k < d.size → idx d[k]! = k) :
    Calls Pg 163 #[.slice (some ⟨blk, off, none⟩) d.size cap, .int .i64 d.size, .func (.func g) #[] cb] w fun e w' => e = .returned (.tuple #[]) ∧ ∃ d', MPost cf idx 0 d.size d d' ∧ SWK enc kc w blk off d' w' := by
  have R : RowK enc kc w blk off d := ⟨hk, h1, hH, hblk⟩
  have S0 : Aside (SWK enc kc w blk off d w) := SWK.start hH
  have KI := Lib.hid (fun (a b : Nat) (dk : Array α) (wr : World) (hs : d.size = dk.size) (S : SWK enc kc w blk off dk wr) (hab : a ≤ b) (hb : b ≤ dk.size) =>
    ins_s LL enc cf g cb blk off cap a b d dk w wr eg hcmp R hs S hab hb (by omega))
  have KS := Lib.hid (fun (a m b : Nat) (dk : Array α) (wr : World) (hs : d.size = dk.size) (S : SWK enc kc w blk off dk wr) (M : MPre cf idx a m b dk) =>
    sym_calls LL enc g blk off cap cb cf idx C d w eg hcmp R (by omega) (b - a) a m b dk wr (Nat.le_refl _) hs S M)
  have HD := Lib.hid hid
  clear hcmp hH hid hk h1
  obtain ⟨N, hN⟩ : ∃ N, d.size = N := ⟨_, rfl⟩
  have HN := Lib.hid hN
  rw [hN] at KI KS hsz HD ⊢
  clear hN
  unfold SymC at KS
  have mixed := LL.mixed; have t0 := LL.t0; have a0 := LL.a0; have z0 := LL.z0; have v0 := LL.v0; have t3 := LL.t3; have a3 := LL.a3; have z3 := LL.z3; have v3 := LL.v3; have t4 := LL.t4; have a4 := LL.a4; have z4 := LL.z4; have v4 := LL.v4; have t22 := LL.t22; have a22 := LL.a22; have z22 := LL.z22; have v22 := LL.v22; have t25 := LL.t25; have a25 := LL.a25; have z25 := LL.z25; have v25 := LL.v25; have tu := LL.tu; have au := LL.au; have zu := LL.zu; have vu := LL.vu; have aE := LL.aE; have zE := LL.zE; have ee1 := LL.esw; have ee2 := LL.erot; have ee3 := LL.esym; have ee4 := LL.est; have ee5 := LL.eins
  go_enter LL.fst, Try.ntmps163
  go_wp2
  go_loopg [7, 8] N (fun kx s7 s8 wr => ∃ (a : Nat) (dk : Array α), s7 = .int .i64 a ∧ s8 = .int .i64 ((a : Int) + 20) ∧ a ≤ N ∧ N - a ≤ kx ∧ Hid (N = dk.size) ∧ Aside (SWK enc kc w blk off dk wr) ∧ Hid (20 ∣ a ∧ Blk cf idx 20 0 a N dk ∧ (∀ k, a ≤ k → k < N → idx dk[k]! = k) ∧ PermIn 0 N d dk))
  case atStart => exact ⟨0, d, rfl, rfl, by omega, by omega, Lib.hid HN.out.symm, S0, Lib.hid ⟨Nat.dvd_zero _, fun a _ _ h => absurd h (by omega), fun k _ k2 => HD.out k k2, permIn_refl _ _ _⟩⟩
  case round =>
    clear S0
    obtain ⟨a, dk, rfl, rfl, ha, hkx, HS, S1, HB⟩ := hrel
    by_cases hlt : a + 20 ≤ N
    · have K := Lib.hid (KI.out a (a + 20) dk wr HS.out S1.out (by omega) (by have := HS.out; omega))
      rw [show ((a + 20 : Nat) : Int) = (a : Int) + 20 by omega, ← HS.out] at K
      clear S1
      go_wp2_with (first | (go_at_fn 170; refine K.out.mono ?_; rintro _ w2 ⟨rfl, hw2⟩; have S2 : Aside _ := hw2; clear hw2))
      obtain ⟨h1, h2, h3, h4⟩ := HB.out
      have hn := HS.out
      have P := ins_stable C dk a (a + 20) (by omega) (by omega) (fun k k1 k2 => h3 k k1 (by omega))
      obtain ⟨g1, g2⟩ := Blk.ins (by omega) h2 h1 (by omega) (by omega) hn h3 P
      go_roundg (N - (a + 20))
      case measure => omega
      case rel => exact ⟨a + 20, _, by go_num, by go_num, by omega, Nat.le_refl _, Lib.hid (by rw [P.1.1]; exact hn), S2, Lib.hid ⟨Nat.dvd_add h1 (Nat.dvd_refl _), g1, g2, permIn_trans _ _ _ _ _ h4 (permIn_mono _ _ a (a + 20) 0 N (Nat.zero_le _) (by omega) (by omega) P.1)⟩⟩
    · have K := Lib.hid (KI.out a N dk wr HS.out S1.out (by omega) (by have := HS.out; omega))
      rw [← HS.out] at K
      have HB2 : Hid (∃ d2, d2 = insertionSort (ltOf cf) dk a N ∧ N = d2.size ∧ Blk cf idx 20 0 N N d2 ∧ PermIn 0 N d d2) := by
        obtain ⟨h1, h2, h3, h4⟩ := HB.out
        have hn := HS.out
        have P := ins_stable C dk a N (by omega) (by omega) (fun k k1 k2 => h3 k k1 k2)
        obtain ⟨g1, g2⟩ := Blk.ins (by omega) h2 h1 (show N = min (a + 20) N by omega) (by omega) hn h3 P
        exact Lib.hid ⟨_, rfl, by rw [P.1.1]; exact hn, fun c c1 c2 c3 => g1 c c1 c2 (by omega), permIn_trans _ _ _ _ _ h4 (permIn_mono _ _ a N 0 N (Nat.zero_le _) (Nat.le_refl _) (by omega) P.1)⟩
      clear S1 HB
      go_wp2_with (first | (go_at_fn 170; refine K.out.mono ?_; rintro _ w2 ⟨rfl, hw2⟩; have S2 : Aside _ := hw2; clear hw2))
      obtain ⟨d2, e2, n2, b2, p2⟩ := HB2.out
      rw [← e2] at S2
      have B0 := Lib.hid b2
      have P0 := Lib.hid p2
      have N0 := Lib.hid n2
      clear e2 n2 b2 p2 HB2 K
      go_loopg [6] N (fun kx s6 wq => ∃ (bs : Nat) (dk : Array α), s6 = .int .i64 bs ∧ 0 < bs ∧ bs ≤ 2 * N + 20 ∧ N - bs ≤ kx ∧ Hid (N = dk.size) ∧ Aside (SWK enc kc w blk off dk wq) ∧ Hid (Blk cf idx bs 0 N N dk ∧ PermIn 0 N d dk))
      case atStart => exact ⟨20, d2, rfl, by omega, by omega, by omega, N0, S2, Lib.hid ⟨B0.out, P0.out⟩⟩
      case round =>
        clear S2 B0 P0 N0
        obtain ⟨bs, dk2, rfl, hb0, hbb, hkx2, HS2, S3, HB3⟩ := hrel
        by_cases hlt2 : bs < N
        · go_wp2
          go_loopg [7, 8] N (fun kx s7 s8 wq => ∃ (a : Nat) (dk : Array α), s7 = .int .i64 a ∧ s8 = .int .i64 ((a : Int) + 2 * (bs : Int)) ∧ a ≤ N ∧ N - a ≤ kx ∧ Hid (N = dk.size) ∧ Aside (SWK enc kc w blk off dk wq) ∧ Hid (2 * bs ∣ a ∧ Blk cf idx (2 * bs) 0 a N dk ∧ Blk cf idx bs a N N dk ∧ PermIn 0 N d dk))
          case atStart => exact ⟨0, dk2, rfl, by go_num, by omega, by omega, HS2, S3, Lib.hid ⟨Nat.dvd_zero _, fun a _ _ h => absurd h (by omega), HB3.out.1, HB3.out.2⟩⟩
          case round =>
            clear S3 HB3 HS2
            obtain ⟨a3, dk3, rfl, rfl, ha3, hkx3, HS3, S3, HB3⟩ := hrel
            by_cases hlt3 : a3 + 2 * bs ≤ N
            · obtain ⟨h1, h2, h3, h4⟩ := HB3.out
              have hn := HS3.out
              have M := h3.pre hb0 h1 (by omega) (show a3 + 2 * bs = min (a3 + 2 * bs) N by omega) hn
              have K := Lib.hid (KS.out a3 (a3 + bs) (a3 + 2 * bs) dk3 wr hn S3.out M)
              rw [show ((a3 + 2 * bs : Nat) : Int) = (a3 : Int) + 2 * (bs : Int) by omega, show ((a3 + bs : Nat) : Int) = (a3 : Int) + (bs : Int) by omega] at K
              clear S3 h1 h2 h3 h4 hn M
              go_wp2_with (first | (go_at_fn 171; refine K.out.mono ?_; rintro _ w2 ⟨rfl, d4, P4, hw2⟩; have S4 : Aside (SWK enc kc w blk off d4 w2) := hw2; have P := Lib.hid P4; clear hw2 P4))
              obtain ⟨h1, h2, h3, h4⟩ := HB3.out
              have hn := HS3.out
              obtain ⟨g1, g2⟩ := Blk.merge hb0 h2 h3 h1 (by omega) (show a3 + 2 * bs = min (a3 + 2 * bs) N by omega) hn P.out
              have P1 := P.out.1
              go_roundg (N - (a3 + 2 * bs))
              case measure => omega
              case rel => exact ⟨a3 + 2 * bs, d4, by go_num, by go_num, by omega, Nat.le_refl _, Lib.hid (by rw [P1.1]; exact hn), S4, Lib.hid ⟨Nat.dvd_add h1 (Nat.dvd_refl _), g1, g2, permIn_trans _ _ _ _ _ h4 (permIn_mono _ _ a3 (a3 + 2 * bs) 0 N (Nat.zero_le _) (by omega) (by omega) P1)⟩⟩
            · by_cases hm : a3 + bs < N
              · obtain ⟨h1, h2, h3, h4⟩ := HB3.out
                have hn := HS3.out
                have M := h3.pre hb0 h1 hm (show N = min (a3 + 2 * bs) N by omega) hn
                have K := Lib.hid (KS.out a3 (a3 + bs) N dk3 wr hn S3.out M)
                rw [show ((a3 + bs : Nat) : Int) = (a3 : Int) + (bs : Int) by omega] at K
                clear S3 h1 h2 h3 h4 hn M
                go_wp2_with (first | (go_at_fn 171; refine K.out.mono ?_; rintro _ w2 ⟨rfl, d4, P4, hw2⟩; have S4 : Aside (SWK enc kc w blk off d4 w2) := hw2; have P := Lib.hid P4; clear hw2 P4))
                obtain ⟨h1, h2, h3, h4⟩ := HB3.out
                have hn := HS3.out
                obtain ⟨g1, g2⟩ := Blk.merge hb0 h2 h3 h1 hm (show N = min (a3 + 2 * bs) N by omega) hn P.out
                have P1 := P.out.1
                go_roundg (N - 2 * bs)
                case measure => omega
                case rel => exact ⟨2 * bs, d4, by go_num, by omega, by omega, by omega, Lib.hid (by rw [P1.1]; exact hn), S4, Lib.hid ⟨fun c c1 c2 c3 => g1 c c1 c2 (by omega), permIn_trans _ _ _ _ _ h4 (permIn_mono _ _ a3 N 0 N (Nat.zero_le _) (by omega) (by omega) P1)⟩⟩
              · go_wp2
                obtain ⟨h1, h2, h3, h4⟩ := HB3.out
                go_roundg (N - 2 * bs)
                case measure => omega
                case rel => exact ⟨2 * bs, dk3, by go_num, by omega, by omega, by omega, HS3, S3, Lib.hid ⟨Blk.last hb0 h2 h3 h1 (by omega), h4⟩⟩
        · go_wp2
          go_end0
          obtain ⟨h1, h2⟩ := HB3.out
          exact ⟨rfl, dk2, ⟨h2, h1.all (by omega)⟩, S3.out⟩
theorem sortStableN_calls (LL : LaysK Pg kc) (enc : α → List Value) (g blk off cap : Nat) (cb : Array Value) (cf : α → α → Int) (idx : α → Nat) (C : CfOk cf) (d : Array α) (w : World)
    (eg : ∀ args w, (callFunc g args).run Pg w = .ok (.enter g args) w) (hcmp : CmpLays Pg g cb enc kc cf blk off d.size w)
    (hk : ∀ x, (enc x).length = kc) (h1 : ∀ x, ∀ v ∈ enc x, v.oneCell' = true) (hH : HoldsK enc kc w blk off d) (hblk : blk < w.heap.size) (hsz : d.size < 1152921504606846976) (hid : ∀ k, k < d.size → idx d[k]! = k) :
    Calls Pg 137 #[.slice (some ⟨blk, off, none⟩) d.size cap, .func (.func g) #[] cb] w fun e w' => e = .returned (.tuple #[]) ∧ ∃ d', MPost cf idx 0 d.size d d' ∧ SWK enc kc w blk off d' w' := by
  have K := Lib.hid (stableN_calls LL enc g blk off cap cb cf idx C d w eg hcmp hk h1 hH hblk hsz hid)
  obtain ⟨m, hm⟩ : ∃ m, d.size = m := ⟨_, rfl⟩
  rw [hm] at K hsz ⊢
  clear hm hH hcmp eg hid hk h1
  have mixed := LL.mixed; have t0 := LL.t0; have a0 := LL.a0; have z0 := LL.z0; have v0 := LL.v0; have t3 := LL.t3; have a3 := LL.a3; have z3 := LL.z3; have v3 := LL.v3; have t4 := LL.t4; have a4 := LL.a4; have z4 := LL.z4; have v4 := LL.v4; have t22 := LL.t22; have a22 := LL.a22; have z22 := LL.z22; have v22 := LL.v22; have t25 := LL.t25; have a25 := LL.a25; have z25 := LL.z25; have v25 := LL.v25; have tu := LL.tu; have au := LL.au; have zu := LL.zu; have vu := LL.vu; have aE := LL.aE; have zE := LL.zE; have ee1 := LL.esw; have ee2 := LL.erot; have ee3 := LL.esym; have ee4 := LL.est; have ee5 := LL.eins
  go_enter LL.fss, Try.ntmps137
  go_wp2_with (first | (go_at_fn 163; refine K.out.mono ?_; rintro e w1 ⟨rfl, d', P, hs⟩; have HS := Lib.hid hs; have HP := Lib.hid P; clear hs P))
  go_end0
  exact ⟨rfl, d', HP.out, HS.out⟩
end Go.Proofs.Ytaoflcmjmhfblaa.HK
