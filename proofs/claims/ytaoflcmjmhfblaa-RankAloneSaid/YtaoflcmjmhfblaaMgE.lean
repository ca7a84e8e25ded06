/- rank, black: the leaves: within, cmp.Compare, open, Cheaper. -/
import Derived.Test.YtaoflcmjmhfblaaMgA
namespace Go.Proofs.Ytaoflcmjmhfblaa.R
open Go.RowKit Go.Proofs.YtaoflcmjmhfblaaW.PrintWords Go.Proofs.YtaoflcmjmhfblaaW.PrintLast Go.Proofs.YtaoflcmjmhfblaaW.PrintMore Go.Proofs.Ytaoflcmjmhfblaa.H Go.Shelf
set_option linter.unusedVariables false
set_option linter.unusedSimpArgs false
def clampI (n l h : Int) : Int := max l (min n h)
set_option maxHeartbeats 1000000 in
theorem clamp_calls (n l h : Int) (w : World) :
    Calls Try.prog 133 #[.int .i64 n, .int .i64 l, .int .i64 h] w fun e w' => e = .returned (.int .i64 (clampI n l h)) ∧ w = w' := by
  go_enter Try.func133, Try.ntmps133
  go_wp2
  all_goals
    go_ret
    exact ⟨rfl, rfl⟩
def withinI (n m : Int) : Bool := decide (1 ≤ n ∧ n ≤ m)
set_option maxHeartbeats 1000000 in
theorem within_calls (n m : Int) (hm : 1 ≤ m) (w : World) :
    Calls Try.prog 121 #[.int .i64 n, .int .i64 m] w fun e w' => e = .returned (.bool (withinI n m)) ∧ w = w' := by
  obtain ⟨c, hc⟩ : ∃ c, clampI n 1 m = c := ⟨_, rfl⟩
  have K := clamp_calls n 1 m w
  rw [hc] at K
  have KH := Lib.hid K
  clear K
  have hw : withinI n m = (n == c) := by
    rw [beq_dec, ← hc]
    unfold withinI clampI
    rw [decide_eq_decide]
    omega
  rw [hw]
  go_enter Try.func121, Try.ntmps121
  go_wp2_with (first | (go_at_call 133; refine KH.out.mono ?_; rintro e w' ⟨rfl, rfl⟩))
  go_ret
  exact ⟨rfl, rfl⟩
theorem nanI_calls (n : Int) (w : World) : Calls Try.prog 162 #[.int .i64 n] w fun e w' => e = .returned (.bool false) ∧ w = w' := by
  go_enter Try.func162, Try.ntmps162
  go_wp2
  go_ret
  exact ⟨by simp, rfl⟩
theorem nanJ_calls (n : Int) (w : World) : Calls Try.prog 158 #[.int .i64 n] w fun e w' => e = .returned (.bool false) ∧ w = w' := by
  go_enter Try.func158, Try.ntmps158
  go_wp2
  go_ret
  exact ⟨by simp, rfl⟩
set_option maxHeartbeats 1000000 in
theorem cmpI_calls (x y : Int) (w : World) : Calls Try.prog 132 #[.int .i64 x, .int .i64 y] w fun e w' => e = .returned (.int .i64 (cmpI x y)) ∧ w = w' := by
  obtain ⟨r, hr⟩ : ∃ r, cmpI x y = r := ⟨_, rfl⟩
  rw [hr]
  have HR := Lib.hid hr
  clear hr
  go_enter Try.func132, Try.ntmps132
  go_wp2_with (first | (go_at_call 162; refine (nanI_calls _ _).mono ?_; rintro e w' ⟨rfl, rfl⟩))
  all_goals (go_ret; refine ⟨ret_i ?_, rfl⟩; rw [← HR.out]; unfold cmpI; (repeat' split) <;> omega)
set_option maxHeartbeats 1000000 in
theorem cmpJ_calls (x y : Int) (w : World) : Calls Try.prog 126 #[.int .i64 x, .int .i64 y] w fun e w' => e = .returned (.int .i64 (cmpI x y)) ∧ w = w' := by
  obtain ⟨r, hr⟩ : ∃ r, cmpI x y = r := ⟨_, rfl⟩
  rw [hr]
  have HR := Lib.hid hr
  clear hr
  go_enter Try.func126, Try.ntmps126
  go_wp2_with (first | (go_at_call 158; refine (nanJ_calls _ _).mono ?_; rintro e w' ⟨rfl, rfl⟩))
  all_goals (go_ret; refine ⟨ret_i ?_, rfl⟩; rw [← HR.out]; unfold cmpI; (repeat' split) <;> omega)
structure PoolV where
  name : ByteArray
  spot : Bool
  weight : Int
  prio : Int
def PoolV.cells (p : PoolV) : Array Value := #[.string p.name, .bool p.spot, .int .i64 p.weight, .int .i64 p.prio]
structure QuoteV where
  price : Int
  score : Int
  till : Int
def QuoteV.cells (q : QuoteV) : Array Value := #[.int .i64 q.price, .int .i64 q.score, .int .u64 q.till]
def openQ (x : QuoteV) (now : Int) : Bool := decide (x.till ≤ now ∧ 0 < x.price)
set_option maxHeartbeats 1000000 in
theorem open_calls (x : QuoteV) (now : Int) (w : World) : Calls Try.prog 155 #[.agg x.cells, .int .u64 now] w fun e w' => e = .returned (.bool (openQ x now)) ∧ Below w.heap.size w w' := by
  obtain ⟨r, hr⟩ : ∃ r, openQ x now = r := ⟨_, rfl⟩
  rw [hr]
  have HR := Lib.hid hr
  clear hr
  simp only [QuoteV.cells]
  go_enter Try.func155, Try.ntmps155
  go_wp2_with (fail)
  all_goals (go_ret; refine ⟨ret_b ?_, (Below.refl _ _).alloc (Nat.le_refl _) _⟩; rw [← HR.out]; simp [openQ, *] <;> (intros; omega))
def cheaperI (a b : PoolV) (p r : QuoteV) : Int :=
  if withinI a.weight 100 && withinI b.weight 100 && withinI p.price 1073741824 && withinI r.price 1073741824 then cmpI (p.price * b.weight) (r.price * a.weight) else 0
set_option maxHeartbeats 2000000 in
set_option maxRecDepth 100000 in
theorem cheaper_calls (a b : PoolV) (p r : QuoteV) (w : World) : Calls Try.prog 52 #[.agg a.cells, .agg b.cells, .agg p.cells, .agg r.cells] w fun e w' => e = .returned (.int .i64 (cheaperI a b p r)) ∧ Bel w w' := by
  obtain ⟨c, hc⟩ : ∃ c, cheaperI a b p r = c := ⟨_, rfl⟩
  rw [hc]
  have HR := Lib.hid hc
  clear hc
  obtain ⟨b1, h1⟩ : ∃ b1, withinI a.weight 100 = b1 := ⟨_, rfl⟩
  obtain ⟨b2, h2⟩ : ∃ b2, withinI b.weight 100 = b2 := ⟨_, rfl⟩
  obtain ⟨b3, h3⟩ : ∃ b3, withinI p.price 1073741824 = b3 := ⟨_, rfl⟩
  obtain ⟨b4, h4⟩ : ∃ b4, withinI r.price 1073741824 = b4 := ⟨_, rfl⟩
  have K1 := fun W => within_calls a.weight 100 (by omega) W
  have K2 := fun W => within_calls b.weight 100 (by omega) W
  have K3 := fun W => within_calls p.price 1073741824 (by omega) W
  have K4 := fun W => within_calls r.price 1073741824 (by omega) W
  rw [h1] at K1
  rw [h2] at K2
  rw [h3] at K3
  rw [h4] at K4
  have E1 := Lib.hid K1
  have E2 := Lib.hid K2
  have E3 := Lib.hid K3
  have E4 := Lib.hid K4
  clear K1 K2 K3 K4
  have H1 := Lib.hid h1
  have H2 := Lib.hid h2
  have H3 := Lib.hid h3
  have H4 := Lib.hid h4
  clear h1 h2 h3 h4
  have hbw : Bel w ((((w.alloc (.cells a.cells 104 (0, 0))).alloc (.cells b.cells 104 (0, 0))).alloc (.cells p.cells 106 (0, 0))).alloc (.cells r.cells 106 (0, 0))) := ((((Bel.refl _).alloc _).alloc _).alloc _).alloc _
  simp only [PoolV.cells, QuoteV.cells] at hbw ⊢
  have HB := Lib.hid hbw
  clear hbw
  have hmul : b1 = true → b2 = true → b3 = true → b4 = true → IntKind.i64.wrap (p.price * b.weight) = p.price * b.weight ∧ IntKind.i64.wrap (r.price * a.weight) = r.price * a.weight := by
    intro e1 e2 e3 e4
    have q1 := H1.out; have q2 := H2.out; have q3 := H3.out; have q4 := H4.out
    rw [e1] at q1; rw [e2] at q2; rw [e3] at q3; rw [e4] at q4
    unfold withinI at q1 q2 q3 q4
    simp only [decide_eq_true_eq] at q1 q2 q3 q4
    have m1 : 0 ≤ p.price * b.weight := Int.mul_nonneg (by omega) (by omega)
    have m2 : p.price * b.weight ≤ 1073741824 * 100 := Int.mul_le_mul q3.2 q2.2 (by omega) (by omega)
    have m3 : 0 ≤ r.price * a.weight := Int.mul_nonneg (by omega) (by omega)
    have m4 : r.price * a.weight ≤ 1073741824 * 100 := Int.mul_le_mul q4.2 q1.2 (by omega) (by omega)
    rw [IntKind.wrap_i64, IntKind.wrap_i64]
    omega
  cases b1
  · go_enter Try.func52, Try.ntmps52
    go_wp2_with (first | (go_at_call 121; (with_reducible refine (E1.out _).mono ?_); rintro e w' ⟨rfl, rfl⟩))
    all_goals (go_ret; exact ⟨ret_i (by rw [← HR.out]; unfold cheaperI; rw [H1.out]; rfl), HB.out⟩)
  cases b2
  · go_enter Try.func52, Try.ntmps52
    go_wp2_with (first | (go_at_call 121; (first | (with_reducible refine (E1.out _).mono ?_) | (with_reducible refine (E2.out _).mono ?_)); rintro e w' ⟨rfl, rfl⟩))
    all_goals (go_ret; exact ⟨ret_i (by rw [← HR.out]; unfold cheaperI; rw [H1.out, H2.out]; rfl), HB.out⟩)
  cases b3
  · go_enter Try.func52, Try.ntmps52
    go_wp2_with (first | (go_at_call 121; (first | (with_reducible refine (E1.out _).mono ?_) | (with_reducible refine (E2.out _).mono ?_) | (with_reducible refine (E3.out _).mono ?_)); rintro e w' ⟨rfl, rfl⟩))
    all_goals (go_ret; exact ⟨ret_i (by rw [← HR.out]; unfold cheaperI; rw [H1.out, H2.out, H3.out]; rfl), HB.out⟩)
  cases b4
  · go_enter Try.func52, Try.ntmps52
    go_wp2_with (first | (go_at_call 121; (first | (with_reducible refine (E1.out _).mono ?_) | (with_reducible refine (E2.out _).mono ?_) | (with_reducible refine (E3.out _).mono ?_) | (with_reducible refine (E4.out _).mono ?_)); rintro e w' ⟨rfl, rfl⟩))
    all_goals (go_ret; exact ⟨ret_i (by rw [← HR.out]; unfold cheaperI; rw [H1.out, H2.out, H3.out, H4.out]; rfl), HB.out⟩)
  obtain ⟨m1, m2⟩ := hmul rfl rfl rfl rfl
  clear hmul
  have hcc : c = cmpI (p.price * b.weight) (r.price * a.weight) := by
    rw [← HR.out]; unfold cheaperI; rw [H1.out, H2.out, H3.out, H4.out]; rfl
  have KC := Lib.hid (fun W => cmpJ_calls (p.price * b.weight) (r.price * a.weight) W)
  rw [hcc]
  clear hcc
  go_enter Try.func52, Try.ntmps52
  go_wp2_with (first | (go_at_call 121; (first | (with_reducible refine (E1.out _).mono ?_) | (with_reducible refine (E2.out _).mono ?_) | (with_reducible refine (E3.out _).mono ?_) | (with_reducible refine (E4.out _).mono ?_)); rintro e w' ⟨rfl, rfl⟩) | (go_at_call 126; (with_reducible refine (KC.out _).mono ?_); rintro e w' ⟨rfl, rfl⟩))
  all_goals (go_ret; exact ⟨rfl, HB.out⟩)
end Go.Proofs.Ytaoflcmjmhfblaa.R
/- rank: pools and quotes as rows; slices.IndexFunc, ContainsFunc. -/
namespace Go.Proofs.Ytaoflcmjmhfblaa.R
open Go.RowKit Go.Proofs.YtaoflcmjmhfblaaW.PrintWords Go.Proofs.YtaoflcmjmhfblaaW.PrintLast Go.Proofs.YtaoflcmjmhfblaaW.PrintMore Go.Proofs.Ytaoflcmjmhfblaa.H Go.Shelf
set_option linter.unusedVariables false
set_option linter.unusedSimpArgs false
/-- A function value tells p of every x of which S holds. -/
def PredR (P : Program) (g : Nat) (cap : Array Value) {α : Type} (enc : α → Value) (p : α → Bool) (S : α → Prop) (w : World) : Prop :=
  ∀ (W : World) (x : α), S x → Below w.heap.size w W → Calls P g (#[enc x] ++ cap) W fun e w' => e = .returned (.bool (p x)) ∧ Below W.heap.size W w'
def kPool : Kd PoolV := Kd.iso (Kd.pair Kd.string (Kd.pair Kd.bool (Kd.pair (Kd.int .i64) (Kd.int .i64)))) (fun p => (p.name, p.spot, p.weight, p.prio))
def kQuote : Kd QuoteV := Kd.iso (Kd.pair (Kd.int .i64) (Kd.pair (Kd.int .i64) (Kd.int .u64))) (fun q => (q.price, q.score, q.till))
def encPool (p : PoolV) : Value := .agg p.cells
def encI (n : Int) : Value := .int .i64 n
def zPool : PoolV := ⟨ByteArray.empty, false, 0, 0⟩
def zQuote : QuoteV := ⟨0, 0, 0⟩
theorem add_addR (ad : Addr) (m j : Nat) : (ad.add m).add j = ad.add (m + j) := by
  unfold Addr.add
  by_cases h : m = 0
  · subst h; simp
  · by_cases h2 : j = 0
    · subst h2; simp
    · have : ¬ m + j = 0 := by omega
      simp [h, h2, this]
      omega
theorem loadPool {w : World} {A : Option Addr} {n : Nat} {l : List PoolV} (h : Kd.C kPool w A n l) (i : Nat) (hi : i < n) : ∃ ad, A = some ad ∧ ∀ j v, ((l.getD i zPool).cells.toList)[j]? = some v → w.cell? ((ad.add (i * 4)).add j) = some v := by
  obtain ⟨ad, cs, e, _, h4, h5⟩ := Kd.C_get h zPool (i : Int) (by omega) (by omega)
  rw [Int.toNat_natCast] at h4 h5
  obtain ⟨c1, c1', rfl, q1, h4⟩ := h4
  obtain ⟨c2, c2', rfl, q2, h4⟩ := h4
  obtain ⟨c3, c4, rfl, q3, q4⟩ := h4
  cases q1; cases q2; cases q3; cases q4
  refine ⟨ad, e, fun j v hv => ?_⟩
  rw [add_addR]
  exact h5 j v hv
theorem loadQuote {w : World} {A : Option Addr} {n : Nat} {l : List QuoteV} (h : Kd.C kQuote w A n l) (i : Nat) (hi : i < n) : ∃ ad, A = some ad ∧ ∀ j v, ((l.getD i zQuote).cells.toList)[j]? = some v → w.cell? ((ad.add (i * 3)).add j) = some v := by
  obtain ⟨ad, cs, e, _, h4, h5⟩ := Kd.C_get h zQuote (i : Int) (by omega) (by omega)
  rw [Int.toNat_natCast] at h4 h5
  obtain ⟨c1, c1', rfl, q1, h4⟩ := h4
  obtain ⟨c2, c3, rfl, q2, q3⟩ := h4
  cases q1; cases q2; cases q3
  refine ⟨ad, e, fun j v hv => ?_⟩
  rw [add_addR]
  exact h5 j v hv
theorem loadInt {w : World} {A : Option Addr} {n : Nat} {l : List Int} (h : Kd.C (Kd.int .i64) w A n l) (i : Nat) (hi : i < n) : ∃ ad, A = some ad ∧ w.cell? (ad.add i) = some (.int .i64 (l.getD i 0)) := by
  obtain ⟨ad, cs, e, _, h4, h5⟩ := Kd.C_get h 0 (i : Int) (by omega) (by omega)
  rw [Int.toNat_natCast] at h4 h5
  cases h4
  have hsz : (Kd.int .i64).sz = 1 := rfl
  rw [hsz, Nat.mul_one] at h5
  exact ⟨ad, e, h5 0 _ rfl⟩
set_option maxHeartbeats 2000000 in
set_option maxRecDepth 100000 in
theorem idxPool (g : Nat) (cap : Array Value) (eg : ∀ args w, (callFunc g args).run Try.prog w = .ok (.enter g args) w) (p : PoolV → Bool) (S : PoolV → Prop) (A : Option Addr) (c : Nat) (l : List PoolV) (w : World)
    (h : Kd.C kPool w A l.length l) (hS : ∀ x ∈ l, S x) (hp : PredR Try.prog g cap encPool p S w) :
    Calls Try.prog 156 #[.slice A l.length c, .func (.func g) #[] cap] w fun e w' => e = .returned (.int .i64 (idxI p l)) ∧ Below w.heap.size w w' := by
  have hm := Kd.C_max h
  obtain ⟨n, hn⟩ : ∃ n, l.length = n := ⟨_, rfl⟩
  rw [hn] at h hm ⊢
  have H := Lib.hid h
  have HN := Lib.hid hn
  have HP := Lib.hid hp
  have HS := Lib.hid hS
  clear h hn hp hS
  go_enter Try.func156, Try.ntmps156
  go_wp2
  go_loopg [5, 8] n (fun gg _ s8 wr => ∃ kk : Nat, kk ≤ n ∧ n - kk ≤ gg ∧ s8 = .int .i64 kk ∧ Hid (Below w.heap.size w wr) ∧ Hid (∀ j, j < kk → p (l.getD j zPool) = false))
  case atStart => exact ⟨0, Nat.zero_le _, by omega, rfl, Lib.hid (Below.refl _ w), Lib.hid (fun j hj => absurd hj (Nat.not_lt_zero _))⟩
  case round =>
    obtain ⟨kk, hkk, hg, rfl, BW, A1⟩ := hrel
    by_cases hlt : kk < n
    · have hltz : (kk : Int) < (n : Int) := by omega
      obtain ⟨ad, ea, hc⟩ := loadPool (Kd.C_below H.out BW.out) kk hlt
      subst ea
      obtain ⟨y, hy⟩ : ∃ y, l.getD kk zPool = y := ⟨_, rfl⟩
      rw [hy] at hc
      have HC := Lib.hid hc
      clear hc
      have hlz : l[kk]? = some y := by rw [← hy, List.getD_eq_getElem?_getD, List.getElem?_eq_getElem (by rw [HN.out]; exact hlt)]; rfl
      have hcall := HP.out wr y (HS.out y (List.mem_of_getElem? hlz)) BW.out
      have B := Lib.hid hy
      have BZ := Lib.hid hlz
      clear hy hlz
      cases hq : p y with
      | true =>
        rw [hq] at hcall
        have HQ := Lib.hid hq
        have HK := Lib.hid hcall
        clear hq hcall
        go_wp2_with (first | ((with_reducible refine gate_load 104 rfl ?_); refine wpList_load_any rfl 104 _ rfl _ rfl _ _ HC.out Try.underlying104 rfl (by kernel_rfl) ?_) | (go_at_fn g; refine HK.out.mono ?_; rintro e w' ⟨rfl, hb'⟩; have HB' := Lib.hid hb'; clear hb'))
        go_ret
        exact ⟨ret_i (idxI_hit p l kk y BZ.out HQ.out (fun j hj => by rw [getD_any l j y zPool (by rw [HN.out]; omega)]; exact A1.out j hj)).symm, below_step BW.out HB'.out⟩
      | false =>
        rw [hq] at hcall
        have HQ := Lib.hid hq
        have HK := Lib.hid hcall
        clear hq hcall
        go_wp2_with (first | ((with_reducible refine gate_load 104 rfl ?_); refine wpList_load_any rfl 104 _ rfl _ rfl _ _ HC.out Try.underlying104 rfl (by kernel_rfl) ?_) | (go_at_fn g; refine HK.out.mono ?_; rintro e w' ⟨rfl, hb'⟩; have HB' := Lib.hid hb'; clear hb'))
        go_roundg (n - (kk + 1))
        case measure => omega
        case rel =>
          refine ⟨kk + 1, by omega, by omega, by go_num, Lib.hid (below_step BW.out HB'.out), Lib.hid (fun j hj => ?_)⟩
          by_cases e : j = kk
          · subst e
            rw [B.out]; exact HQ.out
          · exact A1.out j (by omega)
    · have hltz : ¬ (kk : Int) < (n : Int) := by omega
      have : kk = n := by omega
      subst this
      go_wp2
      go_ret
      exact ⟨ret_i (idxI_miss p l zPool (fun j hj => A1.out j (by rw [← HN.out]; exact hj))).symm, BW.out⟩
set_option maxHeartbeats 1000000 in
theorem hasPool (g : Nat) (cap : Array Value) (eg : ∀ args w, (callFunc g args).run Try.prog w = .ok (.enter g args) w) (p : PoolV → Bool) (S : PoolV → Prop) (A : Option Addr) (c : Nat) (l : List PoolV) (w : World)
    (h : Kd.C kPool w A l.length l) (hS : ∀ x ∈ l, S x) (hp : PredR Try.prog g cap encPool p S w) :
    Calls Try.prog 119 #[.slice A l.length c, .func (.func g) #[] cap] w fun e w' => e = .returned (.bool (l.any p)) ∧ Below w.heap.size w w' := by
  have K := Lib.hid (idxPool g cap eg p S A c l w h hS hp)
  obtain ⟨n, hn⟩ : ∃ n, l.length = n := ⟨_, rfl⟩
  have e := idxI_any p l
  rw [← e]
  obtain ⟨m, hm⟩ : ∃ m, idxI p l = m := ⟨_, rfl⟩
  rw [hm, hn] at K
  rw [hm, hn]
  clear h hS hp hn hm e
  go_enter Try.func119, Try.ntmps119
  go_wp2_with (first | (go_at_call 156; refine K.out.mono ?_; rintro e w' ⟨rfl, hb'⟩; have HB' := Lib.hid hb'; clear hb'))
  go_ret
  exact ⟨rfl, HB'.out⟩
set_option maxHeartbeats 2000000 in
set_option maxRecDepth 100000 in
theorem idxInt (g : Nat) (cap : Array Value) (eg : ∀ args w, (callFunc g args).run Try.prog w = .ok (.enter g args) w) (p : Int → Bool) (S : Int → Prop) (A : Option Addr) (c : Nat) (l : List Int) (w : World)
    (h : Kd.C (Kd.int .i64) w A l.length l) (hS : ∀ x ∈ l, S x) (hp : PredR Try.prog g cap encI p S w) :
    Calls Try.prog 157 #[.slice A l.length c, .func (.func g) #[] cap] w fun e w' => e = .returned (.int .i64 (idxI p l)) ∧ Below w.heap.size w w' := by
  have hm := Kd.C_max h
  obtain ⟨n, hn⟩ : ∃ n, l.length = n := ⟨_, rfl⟩
  rw [hn] at h hm ⊢
  have H := Lib.hid h
  have HN := Lib.hid hn
  have HP := Lib.hid hp
  have HS := Lib.hid hS
  clear h hn hp hS
  go_enter Try.func157, Try.ntmps157
  go_wp2
  go_loopg [5, 8] n (fun gg _ s8 wr => ∃ kk : Nat, kk ≤ n ∧ n - kk ≤ gg ∧ s8 = .int .i64 kk ∧ Hid (Below w.heap.size w wr) ∧ Hid (∀ j, j < kk → p (l.getD j 0) = false))
  case atStart => exact ⟨0, Nat.zero_le _, by omega, rfl, Lib.hid (Below.refl _ w), Lib.hid (fun j hj => absurd hj (Nat.not_lt_zero _))⟩
  case round =>
    obtain ⟨kk, hkk, hg, rfl, BW, A1⟩ := hrel
    by_cases hlt : kk < n
    · have hltz : (kk : Int) < (n : Int) := by omega
      obtain ⟨ad, ea, hc⟩ := loadInt (Kd.C_below H.out BW.out) kk hlt
      subst ea
      obtain ⟨y, hy⟩ : ∃ y, l.getD kk 0 = y := ⟨_, rfl⟩
      rw [hy] at hc
      have hlz : l[kk]? = some y := by rw [← hy, List.getD_eq_getElem?_getD, List.getElem?_eq_getElem (by rw [HN.out]; exact hlt)]; rfl
      have hcall := HP.out wr y (HS.out y (List.mem_of_getElem? hlz)) BW.out
      have B := Lib.hid hy
      have BZ := Lib.hid hlz
      clear hy hlz
      cases hq : p y with
      | true =>
        rw [hq] at hcall
        have HQ := Lib.hid hq
        have HK := Lib.hid hcall
        clear hq hcall
        go_wp2_with (first | (go_at_fn g; refine HK.out.mono ?_; rintro e w' ⟨rfl, hb'⟩; have HB' := Lib.hid hb'; clear hb'))
        go_ret
        exact ⟨ret_i (idxI_hit p l kk y BZ.out HQ.out (fun j hj => by rw [getD_any l j y 0 (by rw [HN.out]; omega)]; exact A1.out j hj)).symm, below_step BW.out HB'.out⟩
      | false =>
        rw [hq] at hcall
        have HQ := Lib.hid hq
        have HK := Lib.hid hcall
        clear hq hcall
        go_wp2_with (first | (go_at_fn g; refine HK.out.mono ?_; rintro e w' ⟨rfl, hb'⟩; have HB' := Lib.hid hb'; clear hb'))
        go_roundg (n - (kk + 1))
        case measure => omega
        case rel =>
          refine ⟨kk + 1, by omega, by omega, by go_num, Lib.hid (below_step BW.out HB'.out), Lib.hid (fun j hj => ?_)⟩
          by_cases e : j = kk
          · subst e
            rw [B.out]; exact HQ.out
          · exact A1.out j (by omega)
    · have hltz : ¬ (kk : Int) < (n : Int) := by omega
      have : kk = n := by omega
      subst this
      go_wp2
      go_ret
      exact ⟨ret_i (idxI_miss p l 0 (fun j hj => A1.out j (by rw [← HN.out]; exact hj))).symm, BW.out⟩
set_option maxHeartbeats 1000000 in
theorem hasInt (g : Nat) (cap : Array Value) (eg : ∀ args w, (callFunc g args).run Try.prog w = .ok (.enter g args) w) (p : Int → Bool) (S : Int → Prop) (A : Option Addr) (c : Nat) (l : List Int) (w : World)
    (h : Kd.C (Kd.int .i64) w A l.length l) (hS : ∀ x ∈ l, S x) (hp : PredR Try.prog g cap encI p S w) :
    Calls Try.prog 122 #[.slice A l.length c, .func (.func g) #[] cap] w fun e w' => e = .returned (.bool (l.any p)) ∧ Below w.heap.size w w' := by
  have K := Lib.hid (idxInt g cap eg p S A c l w h hS hp)
  obtain ⟨n, hn⟩ : ∃ n, l.length = n := ⟨_, rfl⟩
  have e := idxI_any p l
  rw [← e]
  obtain ⟨m, hm⟩ : ∃ m, idxI p l = m := ⟨_, rfl⟩
  rw [hm, hn] at K
  rw [hm, hn]
  clear h hS hp hn hm e
  go_enter Try.func122, Try.ntmps122
  go_wp2_with (first | (go_at_call 157; refine K.out.mono ?_; rintro e w' ⟨rfl, hb'⟩; have HB' := Lib.hid hb'; clear hb'))
  go_ret
  exact ⟨rfl, HB'.out⟩
end Go.Proofs.Ytaoflcmjmhfblaa.R
/- black.Opens. -/
namespace Go.Proofs.Ytaoflcmjmhfblaa.R
open Go.RowKit Go.Proofs.YtaoflcmjmhfblaaW.PrintWords Go.Proofs.YtaoflcmjmhfblaaW.PrintLast Go.Proofs.YtaoflcmjmhfblaaW.PrintMore Go.Proofs.Ytaoflcmjmhfblaa.H Go.Shelf
set_option linter.unusedVariables false
set_option linter.unusedSimpArgs false
/-- A configuration, of which the pools' slice, the strategy, the spread are told. -/
structure CfF (cs : Array Value) (A : Option Addr) (n c : Nat) (st sp : Int) : Prop where
  size : cs.size = 20
  one : cs.all (·.oneCell') = true
  c0 : cs[0]? = some (.slice A n c)
  c1 : cs[1]? = some (.int .u8 st)
  c2 : cs[2]? = some (.int .i64 sp)
def openP (spot : Bool) (now : Int) (p : PoolV) (q : QuoteV) : Bool := (p.spot == spot) && openQ q now
set_option maxHeartbeats 2000000 in
set_option maxRecDepth 100000 in
theorem opens1_calls (p : PoolV) (q : QuoteV) (spot : Bool) (now : Int) (gs gn : Nat) (w : World) (h1 : w.cell? ⟨gs, 0, none⟩ = some (.bool spot)) (h2 : w.cell? ⟨gn, 0, none⟩ = some (.int .u64 now)) :
    Calls Try.prog 154 #[.agg p.cells, .agg q.cells, .pointer (some ⟨gs, 0, none⟩), .pointer (some ⟨gn, 0, none⟩)] w fun e w' => e = .returned (.bool (openP spot now p q)) ∧ Below w.heap.size w w' := by
  have KO := Lib.hid (open_calls q now)
  obtain ⟨r, hr⟩ : ∃ r, openQ q now = r := ⟨_, rfl⟩
  rw [hr] at KO
  unfold openP
  rw [hr]
  clear hr
  have hb := below_alloc (below_alloc (Below.refl w.heap.size w) (.cells p.cells 104 (0, 0))) (.cells q.cells 106 (0, 0))
  have q1 := (hb.cell (World.block_lt_of_cell? _ _ h1)).trans h1
  have q2 := (hb.cell (World.block_lt_of_cell? _ _ h2)).trans h2
  have hX := Lib.hid (heap_alloc_new (w.alloc (.cells p.cells 104 (0, 0))) (.cells q.cells 106 (0, 0)))
  simp only [PoolV.cells, QuoteV.cells] at KO hb q1 q2 hX ⊢
  have HB := Lib.hid hb
  clear hb h1 h2
  cases hsp : (p.spot == spot)
  · go_enter Try.func154, Try.ntmps154
    go_wp2_with fail
    all_goals (go_ret; exact ⟨rfl, HB.out⟩)
  · go_enter Try.func154, Try.ntmps154
    go_wp2_with (first | ((with_reducible refine gate_load 106 rfl ?_); refine load_row_g (by rfl) 106 _ rfl _ rfl 106 _ _ _ (by exact hX.out) Try.underlying106 rfl (by kernel_rfl) ?_) | (go_at_call 155; (with_reducible refine (KO.out _).mono ?_); rintro e w1 ⟨rfl, hb⟩; have HB1 := Lib.hid (below_step HB.out hb); clear hb))
    all_goals (go_ret; exact ⟨rfl, HB1.out⟩)
set_option maxHeartbeats 4000000 in
set_option maxRecDepth 100000 in
theorem those_reg5 (g : Nat) (cap : Array Value) (eg : ∀ args w, (callFunc g args).run Try.prog w = .ok (.enter g args) w) (ap aq : Addr) (np cp nq cq i g3 : Nat) (p : PoolV) (q : QuoteV) (b : Bool) (hi1 : i < np) (hi2 : i < nq) (hj1 : (i : Int) < (np : Int)) (hj2 : (i : Int) < (nq : Int)) (hj0 : 0 ≤ (i : Int)) {Q : Exit → Act → World → Prop} (a0 : Act) (W0 : World) (hs : a0.tmps.size = 35) (hdf : a0.defers = []) (f1 : a0.eval (.tmp 1) = .slice (some aq) nq cq) (f2 : a0.eval (.tmp 2) = .func (.func g) #[] cap) (f3 : a0.eval (.tmp 3) = .pointer (some ⟨g3, 0, none⟩)) (f8 : a0.eval (.tmp 8) = .int .i64 (i : Int)) (h3 : W0.cell? ⟨g3, 0, none⟩ = some (.slice (some ap) np cp)) (hp : ∀ j v, p.cells.toList[j]? = some v → W0.cell? ((ap.add (i * 4)).add j) = some v) (hq : ∀ j v, q.cells.toList[j]? = some v → W0.cell? ((aq.add (i * 3)).add j) = some v) (hcall : ∀ W, Below W0.heap.size W0 W → Calls Try.prog g (#[.agg p.cells, .agg q.cells] ++ cap) W fun e w' => e = .returned (.bool b) ∧ Below W.heap.size W w') (hQ : ∀ W, Below W0.heap.size W0 W → Q .normal (setA a0 [(18, .func (.func g) #[] cap), (19, .pointer (some ⟨g3, 0, none⟩)), (20, .slice (some ap) np cp), (21, .int .i64 (i : Int)), (22, .pointer (some (ap.add (i * 4)))), (23, .agg p.cells), (24, .slice (some aq) nq cq), (25, .int .i64 (i : Int)), (26, .pointer (some (aq.add (i * 3)))), (27, .agg q.cells), (28, .bool b)]) W) : (Code.region 5 #[{ dst := some 18, op := Op.move (Operand.tmp 2), type := 211, pos := "black.go:50", after := #[], guard := none }, { dst := some 19, op := Op.fieldAddr 41 (Operand.tmp 3) 0, type := 0, pos := "black.go:50", after := #[], guard := none }, { dst := some 20, op := Op.load 37 (Operand.tmp 19), type := 37, pos := "black.go:50", after := #[{ on := 1, ground := Ground.data }], guard := none }, { dst := some 21, op := Op.move (Operand.tmp 8), type := 3, pos := "black.go:50", after := #[], guard := none }, { dst := some 22, op := Op.indexAddr 37 (Operand.tmp 20) (Operand.tmp 21), type := 0, pos := "black.go:50", after := #[{ on := 2, ground := Ground.data }, { on := 3, ground := Ground.data }], guard := none }, { dst := some 23, op := Op.load 104 (Operand.tmp 22), type := 104, pos := "black.go:50", after := #[{ on := 4, ground := Ground.data }], guard := none }, { dst := some 24, op := Op.move (Operand.tmp 1), type := 97, pos := "black.go:50", after := #[], guard := none }, { dst := some 25, op := Op.move (Operand.tmp 8), type := 3, pos := "black.go:50", after := #[], guard := none }, { dst := some 26, op := Op.indexAddr 97 (Operand.tmp 24) (Operand.tmp 25), type := 0, pos := "black.go:50", after := #[{ on := 6, ground := Ground.data }, { on := 7, ground := Ground.data }], guard := none }, { dst := some 27, op := Op.load 106 (Operand.tmp 26), type := 106, pos := "black.go:50", after := #[{ on := 8, ground := Ground.data }], guard := none }, { dst := some 28, op := Op.call { callee := Callee.value (Operand.tmp 18), args := #[Operand.tmp 23, Operand.tmp 27], argTypes := #[104, 106] }, type := 4, pos := "black.go:50", after := #[{ on := 0, ground := Ground.data }, { on := 5, ground := Ground.data }, { on := 9, ground := Ground.data }], guard := none }] true).wp Try.prog Q a0 W0 := by
  refine wp_region_inv_at (by kernel_rfl) (fun a0 L a W => a0.tmps.size = 35 ∧ VInv [(0, 18, .func (.func g) #[] cap), (1, 19, .pointer (some ⟨g3, 0, none⟩)), (2, 20, .slice (some ap) np cp), (3, 21, .int .i64 (i : Int)), (4, 22, .pointer (some (ap.add (i * 4)))), (5, 23, .agg p.cells), (6, 24, .slice (some aq) nq cq), (7, 25, .int .i64 (i : Int)), (8, 26, .pointer (some (aq.add (i * 3)))), (9, 27, .agg q.cells), (10, 28, .bool b)] [18, 19, 20, 21, 22, 23, 24, 25, 26, 27, 28] a0 L a ∧ ∃ g, AInv W0 998 999 99999 #[] #[] 0 L a W g) (by kernel_rfl) ⟨hs, VInv.start _ _ _, 0, AInv.start _ (below_drew (Below.refl _ _))⟩ ?_ ?_
  · intro L i' o a W K hI ho hL hdep0 hK
    obtain ⟨hs, hV, g, hA⟩ := hI
    have e1 := (hV.keep 1 (by decide)).trans f1
    have e2 := (hV.keep 2 (by decide)).trans f2
    have e3 := (hV.keep 3 (by decide)).trans f3
    have e8 := (hV.keep 8 (by decide)).trans f8
    have hdep := deps o hdep0
    clear hdep0
    match i', ho with
    | 0, ho =>
      simp only [List.getElem?_toArray, List.getElem?_cons_zero, List.getElem?_cons_succ, Option.some.injEq] at ho
      subst ho
      have E2 := e2
      refine stp_move rfl (by first | exact .inl rfl | exact .inr rfl) ?_
      rw [E2]
      exact hK _ _ ⟨hs, hV.put (by show List.Nodup [0, 1, 2, 3, 4, 5, 6, 7, 8, 9, 10]; decide) (by show List.Nodup [18, 19, 20, 21, 22, 23, 24, 25, 26, 27, 28]; decide) 0 rfl (by decide) (by rw [hs]; decide), g, hA.val0 (by decide) (by decide)⟩
    | 1, ho =>
      simp only [List.getElem?_toArray, List.getElem?_cons_zero, List.getElem?_cons_succ, Option.some.injEq] at ho
      subst ho
      have E3 := e3
      refine stp1 (v := .pointer (some ⟨g3, 0, none⟩)) (w' := W) (.tmp 3) _ rfl E3 (fun ρ hc hρ => by clear hV hK hA; first | (go_simp; done) | (go_simp; rfl)) ?_
      exact hK _ _ ⟨hs, hV.put (by show List.Nodup [0, 1, 2, 3, 4, 5, 6, 7, 8, 9, 10]; decide) (by show List.Nodup [18, 19, 20, 21, 22, 23, 24, 25, 26, 27, 28]; decide) 1 rfl (by decide) (by rw [hs]; decide), g, hA.val0 (by decide) (by decide)⟩
    | 2, ho =>
      simp only [List.getElem?_toArray, List.getElem?_cons_zero, List.getElem?_cons_succ, Option.some.injEq] at ho
      subst ho
      have E19 := hV.get 1 rfl (hdep 1 (by decide))
      have hcl := (hA.below.cell (World.block_lt_of_cell? _ _ h3)).trans h3
      refine stp1 (v := .slice (some ap) np cp) (w' := W) (.tmp 19) _ rfl E19 (fun ρ hc hρ => by clear hV hK hA; first | (go_simp; done) | (go_simp; rfl)) ?_
      exact hK _ _ ⟨hs, hV.put (by show List.Nodup [0, 1, 2, 3, 4, 5, 6, 7, 8, 9, 10]; decide) (by show List.Nodup [18, 19, 20, 21, 22, 23, 24, 25, 26, 27, 28]; decide) 2 rfl (by decide) (by rw [hs]; decide), g, hA.val0 (by decide) (by decide)⟩
    | 3, ho =>
      simp only [List.getElem?_toArray, List.getElem?_cons_zero, List.getElem?_cons_succ, Option.some.injEq] at ho
      subst ho
      have E8 := e8
      refine stp_move rfl (by first | exact .inl rfl | exact .inr rfl) ?_
      rw [E8]
      exact hK _ _ ⟨hs, hV.put (by show List.Nodup [0, 1, 2, 3, 4, 5, 6, 7, 8, 9, 10]; decide) (by show List.Nodup [18, 19, 20, 21, 22, 23, 24, 25, 26, 27, 28]; decide) 3 rfl (by decide) (by rw [hs]; decide), g, hA.val0 (by decide) (by decide)⟩
    | 4, ho =>
      simp only [List.getElem?_toArray, List.getElem?_cons_zero, List.getElem?_cons_succ, Option.some.injEq] at ho
      subst ho
      have E20 := hV.get 2 rfl (hdep 2 (by decide))
      have E21 := hV.get 3 rfl (hdep 3 (by decide))
      refine stp2 (v := .pointer (some (ap.add (i * 4)))) (w' := W) (.tmp 20) _ (.tmp 21) _ rfl E20 E21 (fun ρ hc hρ hρ2 => by clear hV hK hA; (first | (go_simp; done) | (go_simp; rfl))) ?_
      exact hK _ _ ⟨hs, hV.put (by show List.Nodup [0, 1, 2, 3, 4, 5, 6, 7, 8, 9, 10]; decide) (by show List.Nodup [18, 19, 20, 21, 22, 23, 24, 25, 26, 27, 28]; decide) 4 rfl (by decide) (by rw [hs]; decide), g, hA.val0 (by decide) (by decide)⟩
    | 5, ho =>
      simp only [List.getElem?_toArray, List.getElem?_cons_zero, List.getElem?_cons_succ, Option.some.injEq] at ho
      subst ho
      have E22 := hV.get 4 rfl (hdep 4 (by decide))
      refine stp_loadany (cs := p.cells.toList) rfl rfl E22 (fun j v hj => (hA.below.cell (World.block_lt_of_cell? _ _ (hp j v hj))).trans (hp j v hj)) Try.underlying104 rfl (by kernel_rfl) ?_
      exact hK _ _ ⟨hs, hV.put (by show List.Nodup [0, 1, 2, 3, 4, 5, 6, 7, 8, 9, 10]; decide) (by show List.Nodup [18, 19, 20, 21, 22, 23, 24, 25, 26, 27, 28]; decide) 5 rfl (by decide) (by rw [hs]; decide), g, hA.val0 (by decide) (by decide)⟩
    | 6, ho =>
      simp only [List.getElem?_toArray, List.getElem?_cons_zero, List.getElem?_cons_succ, Option.some.injEq] at ho
      subst ho
      have E1 := e1
      refine stp_move rfl (by first | exact .inl rfl | exact .inr rfl) ?_
      rw [E1]
      exact hK _ _ ⟨hs, hV.put (by show List.Nodup [0, 1, 2, 3, 4, 5, 6, 7, 8, 9, 10]; decide) (by show List.Nodup [18, 19, 20, 21, 22, 23, 24, 25, 26, 27, 28]; decide) 6 rfl (by decide) (by rw [hs]; decide), g, hA.val0 (by decide) (by decide)⟩
    | 7, ho =>
      simp only [List.getElem?_toArray, List.getElem?_cons_zero, List.getElem?_cons_succ, Option.some.injEq] at ho
      subst ho
      have E8 := e8
      refine stp_move rfl (by first | exact .inl rfl | exact .inr rfl) ?_
      rw [E8]
      exact hK _ _ ⟨hs, hV.put (by show List.Nodup [0, 1, 2, 3, 4, 5, 6, 7, 8, 9, 10]; decide) (by show List.Nodup [18, 19, 20, 21, 22, 23, 24, 25, 26, 27, 28]; decide) 7 rfl (by decide) (by rw [hs]; decide), g, hA.val0 (by decide) (by decide)⟩
    | 8, ho =>
      simp only [List.getElem?_toArray, List.getElem?_cons_zero, List.getElem?_cons_succ, Option.some.injEq] at ho
      subst ho
      have E24 := hV.get 6 rfl (hdep 6 (by decide))
      have E25 := hV.get 7 rfl (hdep 7 (by decide))
      refine stp2 (v := .pointer (some (aq.add (i * 3)))) (w' := W) (.tmp 24) _ (.tmp 25) _ rfl E24 E25 (fun ρ hc hρ hρ2 => by clear hV hK hA; (first | (go_simp; done) | (go_simp; rfl))) ?_
      exact hK _ _ ⟨hs, hV.put (by show List.Nodup [0, 1, 2, 3, 4, 5, 6, 7, 8, 9, 10]; decide) (by show List.Nodup [18, 19, 20, 21, 22, 23, 24, 25, 26, 27, 28]; decide) 8 rfl (by decide) (by rw [hs]; decide), g, hA.val0 (by decide) (by decide)⟩
    | 9, ho =>
      simp only [List.getElem?_toArray, List.getElem?_cons_zero, List.getElem?_cons_succ, Option.some.injEq] at ho
      subst ho
      have E26 := hV.get 8 rfl (hdep 8 (by decide))
      refine stp_loadany (cs := q.cells.toList) rfl rfl E26 (fun j v hj => (hA.below.cell (World.block_lt_of_cell? _ _ (hq j v hj))).trans (hq j v hj)) Try.underlying106 rfl (by kernel_rfl) ?_
      exact hK _ _ ⟨hs, hV.put (by show List.Nodup [0, 1, 2, 3, 4, 5, 6, 7, 8, 9, 10]; decide) (by show List.Nodup [18, 19, 20, 21, 22, 23, 24, 25, 26, 27, 28]; decide) 9 rfl (by decide) (by rw [hs]; decide), g, hA.val0 (by decide) (by decide)⟩
    | 10, ho =>
      simp only [List.getElem?_toArray, List.getElem?_cons_zero, List.getElem?_cons_succ, Option.some.injEq] at ho
      subst ho
      have E18 := hV.get 0 rfl (hdep 0 (by decide))
      have E23 := hV.get 5 rfl (hdep 5 (by decide))
      have E27 := hV.get 9 rfl (hdep 9 (by decide))
      refine stp_callv rfl eg rfl E18 (args := #[.agg p.cells, .agg q.cells]) (by simp only [List.map_toArray, List.map_cons, List.map_nil, E23, E27]) ?_
      refine (hcall W hA.below).mono ?_
      rintro e w2 ⟨rfl, hb2⟩
      exact ⟨_, rfl, hK _ _ ⟨hs, hV.put (by show List.Nodup [0, 1, 2, 3, 4, 5, 6, 7, 8, 9, 10]; decide) (by show List.Nodup [18, 19, 20, 21, 22, 23, 24, 25, 26, 27, 28]; decide) 10 rfl (by decide) (by rw [hs]; decide), g, hA.val (by decide) (by decide) hb2⟩⟩
    | i' + 11, ho => simp at ho
  · intro L a W hI hall
    obtain ⟨hs', hV, g, hA⟩ := hI
    have ha : a = setA a0 [(18, a.eval (.tmp 18)), (19, a.eval (.tmp 19)), (20, a.eval (.tmp 20)), (21, a.eval (.tmp 21)), (22, a.eval (.tmp 22)), (23, a.eval (.tmp 23)), (24, a.eval (.tmp 24)), (25, a.eval (.tmp 25)), (26, a.eval (.tmp 26)), (27, a.eval (.tmp 27)), (28, a.eval (.tmp 28))] := hV.act (fun k hk => by rw [hs]; simp at hk; omega)
    rw [hV.get 0 rfl (hall 0 (by decide))] at ha
    rw [hV.get 1 rfl (hall 1 (by decide))] at ha
    rw [hV.get 2 rfl (hall 2 (by decide))] at ha
    rw [hV.get 3 rfl (hall 3 (by decide))] at ha
    rw [hV.get 4 rfl (hall 4 (by decide))] at ha
    rw [hV.get 5 rfl (hall 5 (by decide))] at ha
    rw [hV.get 6 rfl (hall 6 (by decide))] at ha
    rw [hV.get 7 rfl (hall 7 (by decide))] at ha
    rw [hV.get 8 rfl (hall 8 (by decide))] at ha
    rw [hV.get 9 rfl (hall 9 (by decide))] at ha
    rw [hV.get 10 rfl (hall 10 (by decide))] at ha
    rw [ha]
    exact hQ W hA.below
end Go.Proofs.Ytaoflcmjmhfblaa.R
/- black.those, Opens. -/
namespace Go.Proofs.Ytaoflcmjmhfblaa.R
open Go.RowKit Go.Proofs.YtaoflcmjmhfblaaW.PrintWords Go.Proofs.YtaoflcmjmhfblaaW.PrintLast Go.Proofs.YtaoflcmjmhfblaaW.PrintMore Go.Proofs.Ytaoflcmjmhfblaa.H Go.Shelf
set_option linter.unusedVariables false
set_option linter.unusedSimpArgs false
/-- A function value tells b of each pool and its quote. -/
def PredP (P : Program) (g : Nat) (cap : Array Value) (b : PoolV → QuoteV → Bool) (w : World) : Prop :=
  ∀ (W : World) (p : PoolV) (q : QuoteV), Below w.heap.size w W → Calls P g (#[.agg p.cells, .agg q.cells] ++ cap) W fun e w' => e = .returned (.bool (b p q)) ∧ Below W.heap.size W w'
def thoseL (b : PoolV → QuoteV → Bool) (ps : List PoolV) (qs : List QuoteV) (m : Nat) : List Int := ((List.range m).filter (fun i => b (ps.getD i zPool) (qs.getD i zQuote))).map Int.ofNat
theorem thoseL_succ (b : PoolV → QuoteV → Bool) (ps : List PoolV) (qs : List QuoteV) (m : Nat) : thoseL b ps qs (m + 1) = thoseL b ps qs m ++ (if b (ps.getD m zPool) (qs.getD m zQuote) = true then [(m : Int)] else []) := by
  unfold thoseL
  rw [List.range_succ, List.filter_append, List.map_append]
  congr 1
  by_cases h : b (ps.getD m zPool) (qs.getD m zQuote) = true
  · rw [if_pos h]; simp only [List.filter_cons, h, if_true, List.filter_nil]; rfl
  · rw [if_neg h]; simp only [List.filter_cons, h, if_false, List.filter_nil]; rfl
theorem thoseL_len (b : PoolV → QuoteV → Bool) (ps : List PoolV) (qs : List QuoteV) (m : Nat) : (thoseL b ps qs m).length ≤ m := by
  unfold thoseL
  rw [List.length_map]
  exact Nat.le_trans (List.length_filter_le _ _) (by simp)
theorem infoInt : (Try.prog.info? 3).map (fun i => (i.zero, i.size, i.bytes)) = some (some (.int .i64 0), 1, 8) := by kernel_rfl
set_option maxHeartbeats 4000000 in
set_option maxRecDepth 100000 in
theorem those_calls (g : Nat) (cap : Array Value) (eg : ∀ args w, (callFunc g args).run Try.prog w = .ok (.enter g args) w) (b : PoolV → QuoteV → Bool) (cs : Array Value) (Ap Aq : Option Addr) (cp cq : Nat) (st sp : Int) (ps : List PoolV) (qs : List QuoteV) (w : World)
    (hcf : CfF cs Ap ps.length cp st sp) (hps : Kd.C kPool w Ap ps.length ps) (hqs : Kd.C kQuote w Aq qs.length qs) (hsz : ps.length * 40 ≤ 140737488355328) (hp : PredP Try.prog g cap b w) :
    Calls Try.prog 153 #[.agg cs, .slice Aq qs.length cq, .func (.func g) #[] cap] w fun e w' => ∃ v, e = .returned v ∧ Kd.R (Kd.int .i64) 3 w' w.heap.size (fun _ => True) v (thoseL b ps qs (min ps.length qs.length)) ∧ Below w.heap.size w w' := by
  have hm1 := Kd.C_max hps
  have hm2 := Kd.C_max hqs
  obtain ⟨np, hnp⟩ : ∃ n, ps.length = n := ⟨_, rfl⟩
  obtain ⟨nq, hnq⟩ : ∃ n, qs.length = n := ⟨_, rfl⟩
  rw [hnp] at hcf hps hm1 hsz ⊢
  rw [hnq] at hqs hm2 ⊢
  have HPS := Lib.hid hps
  have HQS := Lib.hid hqs
  have HP := Lib.hid hp
  have HCF := Lib.hid hcf
  have HBel : Below w.heap.size w w := Below.refl _ _
  clear hps hqs hp hcf hnp hnq
  go_enter Try.func153, Try.ntmps153
  go_upto_region 1 with fail
  refine gen_w (fun W => W.cell? ⟨w.heap.size, 0, none⟩ = some (.slice Ap np cp) ∧ Below w.heap.size w W) ⟨(blk_cell (heap_alloc_new _ _) 0).trans HCF.out.c0, below_alloc HBel _⟩ ?_
  rintro W ⟨hc0, hB⟩
  have HB := Lib.hid hB
  clear hB HBel
  go_wp2_with fail
  have e : min (np : Int) (nq : Int) = ((min np nq : Nat) : Int) := by omega
  rw [e]
  obtain ⟨m, hmm⟩ : ∃ m, min np nq = m := ⟨_, rfl⟩
  rw [hmm]
  have HMM := Lib.hid hmm
  have hm1' : m ≤ np := by omega
  have hm2' : m ≤ nq := by omega
  clear e hmm
  have HB0 := HB
  go_loopw [7, 15] (fun v7 v15 wr => ∃ i : Nat, i ≤ m ∧ v15 = .int .i64 i ∧ Hid (Kd.R (Kd.int .i64) 3 wr w.heap.size (fun k => k ≠ w.heap.size) v7 (thoseL b ps qs i)) ∧ Hid (Below w.heap.size w wr) ∧ Hid (wr.cell? ⟨w.heap.size, 0, none⟩ = some (.slice Ap np cp))) (fun _ v15 _ => m - (intOf v15).toNat)
  case atStart => exact ⟨0, Nat.zero_le _, rfl, Lib.hid (Kd.R_nil _ _ _ _ _), HB0, Lib.hid hc0⟩
  case round =>
    rename_i u7 u15
    clear hc0
    obtain ⟨i, hi, rfl, HO, HB, HC0⟩ := hrel
    by_cases hlt : i < m
    · obtain ⟨ap, ea, hpc⟩ := loadPool (Kd.C_below HPS.out HB.out) i (by omega)
      subst ea
      obtain ⟨aq, ea, hqc⟩ := loadQuote (Kd.C_below HQS.out HB.out) i (by omega)
      subst ea
      have hTK := thoseL_succ b ps qs i
      obtain ⟨p, hpe⟩ : ∃ p, ps.getD i zPool = p := ⟨_, rfl⟩
      obtain ⟨q, hqe⟩ : ∃ q, qs.getD i zQuote = q := ⟨_, rfl⟩
      rw [hpe, hqe] at hTK
      rw [hpe] at hpc
      rw [hqe] at hqc
      obtain ⟨bb, hbb⟩ : ∃ bb, b p q = bb := ⟨_, rfl⟩
      have hcall : ∀ W, Below wr.heap.size wr W → Calls Try.prog g (#[.agg p.cells, .agg q.cells] ++ cap) W fun e w' => e = .returned (.bool bb) ∧ Below W.heap.size W w' := fun W hW => by
        have h1 := HP.out W p q (below_step HB.out hW)
        rw [hbb] at h1
        exact h1
      rw [hbb] at hTK
      have HTK := Lib.hid hTK
      have HPC := Lib.hid hpc
      have HQC := Lib.hid hqc
      have HCA := Lib.hid hcall
      clear hpc hqc hcall hTK hpe hqe hbb
      go_upto_region 5 with fail
      all_goals try (exfalso; omega)
      refine those_reg5 g cap eg ap aq np cp nq cq i w.heap.size p q bb (by omega) (by omega) (by omega) (by omega) (by omega) _ _ rfl rfl rfl rfl rfl rfl HC0.out HPC.out HQC.out HCA.out ?_
      intro W2 hb
      simp only [put_none_, setA, List.foldl_cons, List.foldl_nil, List.setIfInBounds_toArray, List.set_cons_succ, List.set_cons_zero]
      have HO2 := Lib.hid (Kd.R_below HO.out hb)
      have HB2 := Lib.hid (below_step HB.out hb)
      have HC2 := Lib.hid ((hb.cell (World.block_lt_of_cell? _ _ HC0.out)).trans HC0.out)
      clear hb HCA
      cases bb
      · go_wp2_with fail
        exact ⟨⟨i + 1, by omega, by go_num, Lib.hid (by rw [HTK.out]; simp only [Bool.false_eq_true, if_false, List.append_nil]; exact HO2.out), HB2, HC2⟩, by simp only [intOf]; omega⟩
      · obtain ⟨Y, hY⟩ : ∃ Y, thoseL b ps qs i = Y := ⟨_, rfl⟩
        have hlen := thoseL_len b ps qs i
        have hO2 := HO2.out
        have hTK := HTK.out
        rw [hY] at hO2 hTK hlen
        have HO3 := Lib.hid hO2
        have HTK3 := Lib.hid hTK
        have HLN := Lib.hid (show (Y.length + 1) * 8 ≤ 140737488355328 by omega)
        clear hY hO2 hTK hlen HTK HO HO2
        go_wp2_with (first | ((with_reducible refine gate_builtin (b := .append) (xs := #[.tmp 29, .tmp 31]) rfl ?_); at_builtin; refine Kd.R_append (Kd.int .i64) (w0 := w) w.heap.size rfl (.tmp 29) (.tmp 31) 99 3 (.int .i64 0) 8 rfl Try.underlying99 infoInt rfl (by decide) (by decide) u7 Y _ [.int .i64 _] (fun k => k ≠ w.heap.size) (fun _ => False) rfl rfl rfl (fun _ hk => hk.elim) (fun k hk => by have h1 := World.block_lt_of_cell? _ _ HC2.out; simp only at h1; omega) HO3.out HB2.out HB2.out.size HLN.out ?_; intro v1 w3 ho hb hg hat; have HO5 := Lib.hid ho; have HB5 := Lib.hid hb; have hne : some w.heap.size ≠ u7.ownBlock := (fun e => HO3.out.1 _ e.symm rfl); have HC5 := Lib.hid (hg.cell HC2.out hne); clear ho hb hg hat))
        exact ⟨⟨i + 1, by omega, by go_num, Lib.hid (by rw [HTK3.out]; simp only [if_true]; exact HO5.out), HB5, HC5⟩, by simp only [intOf]; omega⟩
    · have : i = m := by omega
      subst this
      go_wp2_with fail
      go_ret
      exact ⟨u7, rfl, by rw [HMM.out]; exact Kd.R_mono HO.out (fun _ _ => trivial), HB.out⟩
def opensL (ps : List PoolV) (qs : List QuoteV) (spot : Bool) (now : Int) : List Int := thoseL (openP spot now) ps qs (min ps.length qs.length)
set_option maxHeartbeats 2000000 in
set_option maxRecDepth 100000 in
theorem opens_calls (cs : Array Value) (Ap Aq : Option Addr) (cp cq : Nat) (st sp : Int) (ps : List PoolV) (qs : List QuoteV) (spot : Bool) (now : Int) (w : World)
    (hcf : CfF cs Ap ps.length cp st sp) (hps : Kd.C kPool w Ap ps.length ps) (hqs : Kd.C kQuote w Aq qs.length qs) (hsz : ps.length * 40 ≤ 140737488355328) :
    Calls Try.prog 118 #[.agg cs, .slice Aq qs.length cq, .bool spot, .int .u64 now] w fun e w' => ∃ v, e = .returned v ∧ Kd.R (Kd.int .i64) 3 w' w.heap.size (fun _ => True) v (opensL ps qs spot now) ∧ Below w.heap.size w w' := by
  obtain ⟨W0, hW0⟩ : ∃ W0, W0 = ((w.alloc (.cells cs 41 (0, 0))).alloc (.cells #[.bool spot] 4 (0, 0))).alloc (.cells #[.int .u64 now] 31 (0, 0)) := ⟨_, rfl⟩
  have hb0 : Below w.heap.size w W0 := by rw [hW0]; exact below_alloc (below_alloc (below_alloc (Below.refl _ _) _) _) _
  have h1 : W0.cell? ⟨w.heap.size + 1, 0, none⟩ = some (.bool spot) := by
    rw [hW0]
    have h2 : (((w.alloc (.cells cs 41 (0, 0))).alloc (.cells #[.bool spot] 4 (0, 0))).alloc (.cells #[.int .u64 now] 31 (0, 0))).heap[w.heap.size + 1]? = some (.cells #[.bool spot] 4 (0, 0)) := by
      have h3 := heap_alloc_new (w.alloc (.cells cs 41 (0, 0))) (.cells #[.bool spot] 4 (0, 0))
      rw [World.size_alloc] at h3
      exact (Below.heap_alloc _ _ _ (by simp)).trans h3
    exact (blk_cell h2 0).trans rfl
  have h2 : W0.cell? ⟨w.heap.size + 1 + 1, 0, none⟩ = some (.int .u64 now) := by
    rw [hW0]
    have h3 := heap_alloc_new ((w.alloc (.cells cs 41 (0, 0))).alloc (.cells #[.bool spot] 4 (0, 0))) (.cells #[.int .u64 now] 31 (0, 0))
    rw [World.size_alloc, World.size_alloc] at h3
    exact (blk_cell h3 0).trans rfl
  have h4 : W0.heap[w.heap.size]? = some (.cells cs 41 (0, 0)) := by
    rw [hW0]
    exact (Below.heap_alloc _ _ _ (by simp; omega)).trans ((Below.heap_alloc _ _ _ (by simp)).trans (heap_alloc_new _ _))
  have hp : PredP Try.prog 154 #[.pointer (some ⟨w.heap.size + 1, 0, none⟩), .pointer (some ⟨w.heap.size + 1 + 1, 0, none⟩)] (openP spot now) W0 := fun W p q hW =>
    opens1_calls p q spot now _ _ W ((hW.cell (World.block_lt_of_cell? _ _ h1)).trans h1) ((hW.cell (World.block_lt_of_cell? _ _ h2)).trans h2)
  have K := those_calls 154 _ (enters_of Try.func154 (by kernel_rfl) rfl) (openP spot now) cs Ap Aq cp cq st sp ps qs W0 hcf (Kd.C_below hps hb0) (Kd.C_below hqs hb0) hsz hp
  obtain ⟨n, hn⟩ : ∃ n, qs.length = n := ⟨_, rfl⟩
  unfold opensL
  obtain ⟨L, hL⟩ : ∃ L, thoseL (openP spot now) ps qs (min ps.length qs.length) = L := ⟨_, rfl⟩
  rw [hL]
  rw [hL] at K
  rw [hn] at K ⊢
  have HK := Lib.hid K
  have HX := Lib.hid h4
  have HB := Lib.hid hb0
  have HCF := Lib.hid hcf
  clear K hps hqs hcf hp h1 h2 h4 hb0 hsz hL hn
  go_enter Try.func118, Try.ntmps118
  go_upto_region 1 with fail
  rw [← hW0]
  clear hW0
  go_wp2_with (first | ((with_reducible refine gate_load 41 rfl ?_); refine wpList_load_row rfl 41 _ rfl _ rfl 41 _ _ _ HX.out Try.underlying41 rfl (by rw [HCF.out.size]; kernel_rfl) ?_) | (go_at_call 153; refine HK.out.mono ?_; rintro e w1 ⟨v, rfl, hr, hb⟩; have HR := Lib.hid hr; have HB1 := Lib.hid (below_step HB.out hb); clear hr hb))
  go_ret
  exact ⟨v, rfl, Kd.R_lower HR.out HB.out.size, HB1.out⟩
end Go.Proofs.Ytaoflcmjmhfblaa.R
