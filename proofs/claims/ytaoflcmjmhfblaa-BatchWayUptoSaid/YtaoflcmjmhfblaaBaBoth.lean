/- batch.both, over any function value that keeps an invariant. -/
import Derived.Test.YtaoflcmjmhfblaaBaMay
import Derived.Test.YtaoflcmjmhfblaaGHeld
namespace Go.Proofs.Ytaoflcmjmhfblaa.D
open Go.RowKit Go.Proofs.YtaoflcmjmhfblaaW.PrintWords Go.Proofs.YtaoflcmjmhfblaaW.PrintLast Go.Proofs.YtaoflcmjmhfblaaW.PrintMore Go.Proofs.Ytaoflcmjmhfblaa.H Go.Shelf
set_option linter.unusedVariables false
set_option linter.unusedSimpArgs false
/-- Two lists gone through at once, by their keys. -/
def bothL {α β σ : Type} (ka : α → ByteArray) (kb : β → ByteArray) (step : σ → Option α → Option β → σ) : List α → List β → σ → σ
  | [], [], s => s
  | x :: a, [], s => bothL ka kb step a [] (step s (some x) none)
  | [], y :: b, s => bothL ka kb step [] b (step s none (some y))
  | x :: a, y :: b, s =>
    if cmpL (ka x) (kb y) < 0 then bothL ka kb step a (y :: b) (step s (some x) none)
    else if 0 < cmpL (ka x) (kb y) then bothL ka kb step (x :: a) b (step s none (some y))
    else bothL ka kb step a b (step s (some x) (some y))
  termination_by a b => a.length + b.length
/-- What a function value does with two elements, of which one may be missing. -/
structure TellW {α β σ : Type} (P : Program) (g : Nat) (cap : Array Value) (da : Kd α) (db : Kd β) (pa : α → Prop) (pb : β → Prop) (w0 : World) (I : Nat → σ → World → Prop) (step : σ → Option α → Option β → σ) : Prop where
  one : ∀ W r s ad x, I (r + 1) s W → ElAt da w0 ad x → pa x → Calls P g (#[.pointer (some ad), .pointer none] ++ cap) W fun e w' => e = .returned (.tuple #[]) ∧ I r (step s (some x) none) w'
  two : ∀ W r s bd y, I (r + 1) s W → ElAt db w0 bd y → pb y → Calls P g (#[.pointer none, .pointer (some bd)] ++ cap) W fun e w' => e = .returned (.tuple #[]) ∧ I r (step s none (some y)) w'
  both : ∀ W r s ad x bd y, I (r + 1) s W → ElAt da w0 ad x → pa x → ElAt db w0 bd y → pb y → Calls P g (#[.pointer (some ad), .pointer (some bd)] ++ cap) W fun e w' => e = .returned (.tuple #[]) ∧ I r (step s (some x) (some y)) w'
theorem elRow {w0 : World} {ad : Addr} {x : RowS} (h : ElAt kRow w0 ad x) : ∃ Ax cx, x.f1.length ≤ cx ∧ (Kd.int .u8).C w0 Ax x.f1.length x.f1 ∧ ∀ W, Below w0.heap.size w0 W → ∀ j v, ([.string x.f0, .slice Ax x.f1.length cx] : List Value)[j]? = some v → W.cell? (ad.add j) = some v := by
  obtain ⟨cs, hK, hc⟩ := h
  obtain ⟨Ax, cx, rfl, h1, h2⟩ := k161_open hK
  exact ⟨Ax, cx, h1, h2, fun W hW j v hv => (hW.cell (World.block_lt_of_cell? w0 _ (hc j v hv))).trans (hc j v hv)⟩
theorem elChg {w0 : World} {ad : Addr} {x : ChgS} (h : ElAt kChg w0 ad x) : ∃ Ax cx, x.f1.length ≤ cx ∧ (Kd.int .u8).C w0 Ax x.f1.length x.f1 ∧ ∀ W, Below w0.heap.size w0 W → ∀ j v, ([.string x.f0, .slice Ax x.f1.length cx, .bool x.f2] : List Value)[j]? = some v → W.cell? (ad.add j) = some v := by
  obtain ⟨cs, hK, hc⟩ := h
  obtain ⟨Ax, cx, rfl, h1, h2⟩ := k96_open hK
  exact ⟨Ax, cx, h1, h2, fun W hW j v hv => (hW.cell (World.block_lt_of_cell? w0 _ (hc j v hv))).trans (hc j v hv)⟩
theorem cut_one {α : Type} {k : Kd α} {w : World} {A : Option Addr} {x : α} {l : List α} {c : Nat} (h : k.C w A (x :: l).length (x :: l)) (hc : (x :: l).length ≤ c) : k.C w (if c = 1 then A else A.map (·.add (1 * k.sz))) l.length l := by
  have := Kd.C_drop (m := 1) h (by simp) hc
  simpa using this
theorem ofRow_calls (x : ByteArray) (A : Option Addr) (n c : Nat) (w : World) : Calls Try.prog 100 #[.agg #[.string x, .slice A n c]] w fun e w' => e = .returned (.string x) ∧ Below w.heap.size w w' := by
  go_enter Try.func100, Try.ntmps100
  go_wp2_with (fail)
  go_ret
  exact ⟨rfl, (Below.refl _ _).alloc (Nat.le_refl _) _⟩
theorem ofChg_calls (x : ByteArray) (A : Option Addr) (n c : Nat) (b : Bool) (w : World) : Calls Try.prog 101 #[.agg #[.string x, .slice A n c, .bool b]] w fun e w' => e = .returned (.string x) ∧ Below w.heap.size w w' := by
  go_enter Try.func101, Try.ntmps101
  go_wp2_with (fail)
  go_ret
  exact ⟨rfl, (Below.refl _ _).alloc (Nat.le_refl _) _⟩
set_option maxHeartbeats 4000000 in
set_option maxRecDepth 100000 in
theorem bothRC_calls {σ : Type} (g : Nat) (cap : Array Value) (eg : ∀ args w, (callFunc g args).run Try.prog w = .ok (.enter g args) w) (pa : RowS → Prop) (pb : S96 → Prop) (w0 : World) (I : Nat → σ → World → Prop) (step : σ → Option RowS → Option S96 → σ)
    (hT : TellW Try.prog g cap kRow kChg pa pb w0 I step) (hI1 : ∀ r s W, I r s W → Below w0.heap.size w0 W) (hI2 : ∀ r s W W', I r s W → Below W.heap.size W W' → I r s W') (hI3 : ∀ r s W, I (r + 1) s W → I r s W)
    (A B : Option Addr) (cA cB : Nat) (a : List RowS) (b : List S96) (hA : Kd.C kRow w0 A a.length a) (hB : Kd.C kChg w0 B b.length b) (hcA : a.length ≤ cA) (hcB : b.length ≤ cB) (s0 : σ) (w : World) (hs : I (a.length + b.length) s0 w) (hpa : ∀ x ∈ a, pa x) (hpb : ∀ x ∈ b, pb x) :
    Calls Try.prog 99 #[.slice A a.length cA, .slice B b.length cB, .func (.func 100) #[] #[], .func (.func 101) #[] #[], .func (.func g) #[] cap] w fun e w' => e = .returned (.tuple #[]) ∧ I 0 (bothL (fun x : RowS => x.f0) (fun x : S96 => x.f0) step a b s0) w' := by
  have hmA := Kd.C_max hA
  have hmB := Kd.C_max hB
  have HT := Lib.hid hT
  have HI1 := Lib.hid hI1
  have HI2 := Lib.hid hI2
  have HI3 := Lib.hid hI3
  have HPA := Lib.hid hpa
  have HPB := Lib.hid hpb
  obtain ⟨R, hR⟩ : ∃ R, bothL (fun x : RowS => x.f0) (fun x : S96 => x.f0) step a b s0 = R := ⟨_, rfl⟩
  rw [hR]
  have HA0 := Lib.hid hA
  have HB0 := Lib.hid hB
  have HR0 := Lib.hid hR
  have HS0 := Lib.hid hs
  have HMA := Lib.hid (show (a.length : Int) ≤ 9223372036854775807 by omega)
  have HMB := Lib.hid (show (b.length : Int) ≤ 9223372036854775807 by omega)
  clear hT hI1 hI2 hI3 hpa hpb hA hB hR hs hmA hmB
  obtain ⟨n, hn⟩ : ∃ n, a.length = n := ⟨_, rfl⟩
  obtain ⟨m, hm⟩ : ∃ m, b.length = m := ⟨_, rfl⟩
  have HN := Lib.hid hn
  have HM := Lib.hid hm
  rw [hn, hm] at HS0
  rw [hn] at hcA HA0 HMA ⊢
  rw [hm] at hcB HB0 HMB ⊢
  clear hn hm
  go_enter Try.func99, Try.ntmps99
  go_wp2
  go_loopg [0, 1] (n + m) (fun gg v0 v1 wr => ∃ (n1 m1 : Nat) (a1 : List RowS) (b1 : List S96) (A1 B1 : Option Addr) (c1 d1 : Nat) (s1 : σ), n1 + m1 ≤ gg ∧ n1 ≤ n ∧ m1 ≤ m ∧ v0 = .slice A1 n1 c1 ∧ v1 = .slice B1 m1 d1 ∧ n1 ≤ c1 ∧ m1 ≤ d1 ∧ Hid (a1.length = n1) ∧ Hid (b1.length = m1) ∧ Hid (Kd.C kRow w0 A1 n1 a1) ∧ Hid (Kd.C kChg w0 B1 m1 b1) ∧ Hid (I (n1 + m1) s1 wr) ∧ Hid (∀ x ∈ a1, pa x) ∧ Hid (∀ x ∈ b1, pb x) ∧ Hid (bothL (fun x : RowS => x.f0) (fun x : S96 => x.f0) step a1 b1 s1 = R))
  case atStart => exact ⟨n, m, a, b, A, B, cA, cB, s0, Nat.le_refl _, Nat.le_refl _, Nat.le_refl _, rfl, rfl, hcA, hcB, HN, HM, HA0, HB0, HS0, HPA, HPB, HR0⟩
  case round =>
    obtain ⟨n1, m1, a1, b1, A1, B1, c1, d1, s1, hg, hn1, hm1, rfl, rfl, hc1, hd1, HN1, HM1, HA1, HB1, HS1, HP1, HQ1, HR1⟩ := hrel
    have hmz : (n : Int) ≤ 9223372036854775807 := HMA.out
    have hmz2 : (m : Int) ≤ 9223372036854775807 := HMB.out
    have hinf : ∃ i, Try.prog.info? 161 = some i ∧ i.size = 2 := info_size info161
    have hinf2 : ∃ i, Try.prog.info? 96 = some i ∧ i.size = 3 := info_size info96
    obtain ⟨ia, hia1, hia2⟩ := hinf
    obtain ⟨ib, hib1, hib2⟩ := hinf2
    rcases a1 with _ | ⟨x, a1⟩
    · obtain rfl : n1 = 0 := by rw [← HN1.out]; rfl
      rcases b1 with _ | ⟨y, b1⟩
      · obtain rfl : m1 = 0 := by rw [← HM1.out]; rfl
        have hr : s1 = R := by rw [← HR1.out]; unfold bothL; rfl
        subst hr
        go_wp2_with (fail)
        exact bodyPost_end (results_none rfl _ _ _) rfl ⟨rfl, HS1.out⟩
      · have hlm : b1.length + 1 = m1 := HM1.out
        have hmp : 0 < m1 := by omega
        have hmpz : (0 : Int) < (m1 : Int) := by omega
        have h1m : (1 : Int) ≤ (m1 : Int) := by omega
        obtain ⟨bd, rfl, hy⟩ := el_head HB1.out hmp
        have HEY := Lib.hid hy
        have HQY := HQ1.out y (List.mem_cons_self ..)
        have HQ2 := Lib.hid (fun z hz => HQ1.out z (List.mem_cons_of_mem _ hz))
        have hcut := cut_from (P := Try.prog) 75 96 .i64 Try.underlying75 hib1 3 hib2 (some bd) m1 d1 1 (by omega) (by omega)
        obtain ⟨B2, hB2⟩ : ∃ B2, (if d1 = (1 : Int).toNat then some bd else (some bd).map (·.add ((1 : Int).toNat * 3))) = B2 := ⟨_, rfl⟩
        rw [hB2] at hcut
        have HB2 : Hid (Kd.C kChg w0 B2 b1.length b1) := Lib.hid (by have h := HB1.out; rw [← HM1.out] at h; have h3 := cut_one h (by rw [HM1.out]; exact hd1); rw [← hB2]; exact h3)
        clear hB2 hy
        have hci : cmpI (m1 : Int) 0 = 1 := by unfold cmpI; rw [if_neg (by omega), if_pos (by omega)]
        have KC := Lib.hid (fun W => cmpI_calls (m1 : Int) 0 W)
        rw [hci] at KC
        clear hci
        have KT := Lib.hid (HT.out.two)
        rw [show 0 + m1 = (0 + b1.length) + 1 by omega] at HS1
        go_wp2_with (first
          | (go_at_call 132; refine (KC.out _).mono ?_; rintro e w2 ⟨rfl, rfl⟩)
          | (go_at_fn g; refine (KT.out _ _ _ bd y HS1.out HEY.out HQY).mono ?_; rintro e w2 ⟨rfl, hs2⟩; have HS2 := Lib.hid hs2; clear hs2))
        go_roundg (0 + b1.length)
        case measure => omega
        case rel => exact ⟨0, b1.length, [], b1, A1, B2, c1, d1 - 1, step s1 none (some y), Nat.le_refl _, Nat.zero_le _, by omega, rfl, by first | rfl | (congr 1; omega), Nat.zero_le _, by omega, Lib.hid rfl, Lib.hid rfl, HA1, HB2, HS2, HP1, HQ2, Lib.hid (by rw [← HR1.out]; conv => rhs; unfold bothL)⟩
    · have hln : a1.length + 1 = n1 := HN1.out
      have hnp : 0 < n1 := by omega
      have hnpz : (0 : Int) < (n1 : Int) := by omega
      have h1n : (1 : Int) ≤ (n1 : Int) := by omega
      obtain ⟨ad, rfl, hx⟩ := el_head HA1.out hnp
      have HEX := Lib.hid hx
      have HPX := HP1.out x (List.mem_cons_self ..)
      have HP2 := Lib.hid (fun z hz => HP1.out z (List.mem_cons_of_mem _ hz))
      have hcuta := cut_from (P := Try.prog) 85 161 .i64 Try.underlying85 hia1 2 hia2 (some ad) n1 c1 1 (by omega) (by omega)
      obtain ⟨A2, hA2⟩ : ∃ A2, (if c1 = (1 : Int).toNat then some ad else (some ad).map (·.add ((1 : Int).toNat * 2))) = A2 := ⟨_, rfl⟩
      rw [hA2] at hcuta
      have HA2 : Hid (Kd.C kRow w0 A2 a1.length a1) := Lib.hid (by have h := HA1.out; rw [← HN1.out] at h; have h3 := cut_one h (by rw [HN1.out]; exact hc1); rw [← hA2]; exact h3)
      clear hA2 hx
      rcases b1 with _ | ⟨y, b1⟩
      · obtain rfl : m1 = 0 := by rw [← HM1.out]; rfl
        have hci : cmpI 0 (n1 : Int) = -1 := by unfold cmpI; rw [if_pos (by omega)]
        have KC := Lib.hid (fun W => cmpI_calls 0 (n1 : Int) W)
        rw [hci] at KC
        clear hci
        have KT := Lib.hid (HT.out.one)
        rw [show n1 + 0 = (a1.length + 0) + 1 by omega] at HS1
        go_wp2_with (first
          | (go_at_call 132; refine (KC.out _).mono ?_; rintro e w2 ⟨rfl, rfl⟩)
          | (go_at_fn g; refine (KT.out _ _ _ ad x HS1.out HEX.out HPX).mono ?_; rintro e w2 ⟨rfl, hs2⟩; have HS2 := Lib.hid hs2; clear hs2))
        go_roundg (a1.length + 0)
        case measure => omega
        case rel => exact ⟨a1.length, 0, a1, [], A2, B1, c1 - 1, d1, step s1 (some x) none, Nat.le_refl _, by omega, Nat.zero_le _, by first | rfl | (congr 1; omega), rfl, by omega, Nat.zero_le _, Lib.hid rfl, Lib.hid rfl, HA2, HB1, HS2, HP2, HQ1, Lib.hid (by rw [← HR1.out]; conv => rhs; unfold bothL)⟩
      · have hlm : b1.length + 1 = m1 := HM1.out
        have hmp : 0 < m1 := by omega
        have hmpz : (0 : Int) < (m1 : Int) := by omega
        have h1m : (1 : Int) ≤ (m1 : Int) := by omega
        obtain ⟨bd, rfl, hy⟩ := el_head HB1.out hmp
        have HEY := Lib.hid hy
        have HQY := HQ1.out y (List.mem_cons_self ..)
        have HQ2 := Lib.hid (fun z hz => HQ1.out z (List.mem_cons_of_mem _ hz))
        have hcutb := cut_from (P := Try.prog) 75 96 .i64 Try.underlying75 hib1 3 hib2 (some bd) m1 d1 1 (by omega) (by omega)
        obtain ⟨B2, hB2⟩ : ∃ B2, (if d1 = (1 : Int).toNat then some bd else (some bd).map (·.add ((1 : Int).toNat * 3))) = B2 := ⟨_, rfl⟩
        rw [hB2] at hcutb
        have HB2 : Hid (Kd.C kChg w0 B2 b1.length b1) := Lib.hid (by have h := HB1.out; rw [← HM1.out] at h; have h3 := cut_one h (by rw [HM1.out]; exact hd1); rw [← hB2]; exact h3)
        clear hB2 hy
        obtain ⟨ci, hci⟩ : ∃ ci, cmpI (m1 : Int) (n1 : Int) = ci := ⟨_, rfl⟩
        have KC := Lib.hid (fun W => cmpI_calls (m1 : Int) (n1 : Int) W)
        rw [hci] at KC
        clear hci
        obtain ⟨Ax, cx, _, _, hX⟩ := elRow HEX.out
        obtain ⟨Ay, cy, _, _, hY⟩ := elChg HEY.out
        have HX := Lib.hid hX
        have HY := Lib.hid hY
        clear hX hY
        go_upto_region 3 with (first
          | (go_at_call 132; refine (KC.out _).mono ?_; rintro e w2 ⟨rfl, rfl⟩))
        have HSD := Lib.hid (HI2.out _ _ _ _ HS1.out (below_drew (Below.refl wr.heap.size wr)))
        refine start_ (n := 12) (S := fun w' => (∀ j v, ([.string x.f0, .slice Ax x.f1.length cx] : List Value)[j]? = some v → w'.cell? (ad.add j) = some v) ∧ (∀ j v, ([.string y.f0, .slice Ay y.f1.length cy, .bool y.f2] : List Value)[j]? = some v → w'.cell? (bd.add j) = some v)) (ds := []) #[false, false, false, false, false, false, false, false, false, false, false, false] (by kernel_rfl) rfl rfl ⟨(fun j v hv => HX.out _ (HI1.out _ _ _ HSD.out) j v hv), (fun j v hv => HY.out _ (HI1.out _ _ _ HSD.out) j v hv)⟩ (fun hHeld => ?_)
        generalize wr.drew = W3d at HSD hHeld ⊢
        refine pure_ (i := 0) (N := some 32) (v := ?_) (a' := ?_) #[true, false, false, false, false, false, false, false, false, false, false, false] rfl rfl (by kernel_rfl) (fun _ _ _ h => h) (Or.inl ⟨by rfl, ?_⟩) ?_ ?_
        rotate_left
        · intro w'
          go_simp
          with_reducible rfl
        rotate_left
        · simp only [Act.put, List.setIfInBounds_toArray, List.set_cons_zero, List.set_cons_succ, i64_w, i32_w]
          rfl
        refine pure_ (i := 1) (N := some 33) (v := ?_) (a' := ?_) #[true, true, false, false, false, false, false, false, false, false, false, false] rfl rfl (by kernel_rfl) (fun _ _ _ h => h) (Or.inl ⟨by rfl, ?_⟩) ?_ ?_
        rotate_left
        · intro w'
          go_simp
          with_reducible rfl
        rotate_left
        · simp only [Act.put, List.setIfInBounds_toArray, List.set_cons_zero, List.set_cons_succ, i64_w, i32_w]
          rfl
        refine pure_ (i := 2) (N := some 34) (v := ?_) (a' := ?_) #[true, true, true, false, false, false, false, false, false, false, false, false] rfl rfl (by kernel_rfl) (fun _ _ _ h => h) (Or.inl ⟨by rfl, ?_⟩) ?_ ?_
        rotate_left
        · intro w'
          go_simp
          with_reducible rfl
        rotate_left
        · simp only [Act.put, List.setIfInBounds_toArray, List.set_cons_zero, List.set_cons_succ, i64_w, i32_w]
          rfl
        refine pure_ (i := 5) (N := some 37) (v := ?_) (a' := ?_) #[true, true, true, false, false, true, false, false, false, false, false, false] rfl rfl (by kernel_rfl) (fun _ _ _ h => h) (Or.inl ⟨by rfl, ?_⟩) ?_ ?_
        rotate_left
        · intro w'
          go_simp
          with_reducible rfl
        rotate_left
        · simp only [Act.put, List.setIfInBounds_toArray, List.set_cons_zero, List.set_cons_succ, i64_w, i32_w]
          rfl
        refine pure_ (i := 6) (N := some 38) (v := ?_) (a' := ?_) #[true, true, true, false, false, true, true, false, false, false, false, false] rfl rfl (by kernel_rfl) (fun _ _ _ h => h) (Or.inl ⟨by rfl, ?_⟩) ?_ ?_
        rotate_left
        · intro w'
          go_simp
          with_reducible rfl
        rotate_left
        · simp only [Act.put, List.setIfInBounds_toArray, List.set_cons_zero, List.set_cons_succ, i64_w, i32_w]
          rfl
        refine pure_ (i := 7) (N := some 39) (v := ?_) (a' := ?_) #[true, true, true, false, false, true, true, true, false, false, false, false] rfl rfl (by kernel_rfl) (fun _ _ _ h => h) (Or.inl ⟨by rfl, ?_⟩) ?_ ?_
        rotate_left
        · intro w'
          go_simp
          with_reducible rfl
        rotate_left
        · simp only [Act.put, List.setIfInBounds_toArray, List.set_cons_zero, List.set_cons_succ, i64_w, i32_w]
          rfl
        refine take_ (i := 3) (N := some 35) (v := ?_) (a' := ?_) #[true, true, true, true, false, true, true, true, false, false, false, false] rfl rfl (by kernel_rfl) (fun _ _ _ h => h) (Or.inl ⟨by rfl, ?_⟩) hHeld ?_ ?_
        rotate_left
        · rintro w' ⟨s0, s1⟩
          refine exec_load_any 161 (.tmp 34) ?_ ad ?_ [.string x.f0, .slice Ax x.f1.length cx] _ s0 Try.underlying161 rfl (by kernel_rfl)
          · rfl
          · rfl
        rotate_left
        · simp only [Act.put, List.setIfInBounds_toArray, List.set_cons_zero, List.set_cons_succ, i64_w, i32_w]
          rfl
        refine take_ (i := 8) (N := some 40) (v := ?_) (a' := ?_) #[true, true, true, true, false, true, true, true, true, false, false, false] rfl rfl (by kernel_rfl) (fun _ _ _ h => h) (Or.inl ⟨by rfl, ?_⟩) hHeld ?_ ?_
        rotate_left
        · rintro w' ⟨s0, s1⟩
          refine exec_load_any 96 (.tmp 39) ?_ bd ?_ [.string y.f0, .slice Ay y.f1.length cy, .bool y.f2] _ s1 Try.underlying96 rfl (by kernel_rfl)
          · rfl
          · rfl
        rotate_left
        · simp only [Act.put, List.setIfInBounds_toArray, List.set_cons_zero, List.set_cons_succ, i64_w, i32_w]
          rfl
        refine one_ (i := 4) (N := some 36) #[true, true, true, true, true, true, true, true, true, false, false, false] rfl rfl (by kernel_rfl) (by decide) (fun K hK => ?_)
        refine goesV_ (f := 100) (fun args w => by kernel_rfl) (.tmp 32) #[] #[.agg #[.string x.f0, .slice Ax x.f1.length cx]] (by rfl) rfl rfl (by rfl) (by (try simp only [List.map_toArray, List.map_cons, List.map_nil]); first | done | rfl) ?_
        refine (ofRow_calls x.f0 Ax x.f1.length cx _).mono ?_
        rintro e W4 ⟨rfl, hb4⟩
        refine ⟨_, rfl, ?_⟩
        have HSE := Lib.hid (HI2.out _ _ _ _ HSD.out hb4)
        clear hb4
        refine hK.out _ _ (⟨fun j v hv => HX.out _ (HI1.out _ _ _ HSE.out) j v hv, fun j v hv => HY.out _ (HI1.out _ _ _ HSE.out) j v hv⟩) (fun hHeld => ?_)
        clear hK K
        refine norm_ (a' := ?_) ?_ ?_
        rotate_left
        · show Act.put _ (some 36) _ = _
          simp only [Act.put, List.setIfInBounds_toArray, List.set_cons_zero, List.set_cons_succ, i64_w, i32_w]
          rfl
        refine one_ (i := 9) (N := some 41) #[true, true, true, true, true, true, true, true, true, true, false, false] rfl rfl (by kernel_rfl) (by decide) (fun K hK => ?_)
        refine goesV_ (f := 101) (fun args w => by kernel_rfl) (.tmp 37) #[] #[.agg #[.string y.f0, .slice Ay y.f1.length cy, .bool y.f2]] (by rfl) rfl rfl (by rfl) (by (try simp only [List.map_toArray, List.map_cons, List.map_nil]); first | done | rfl) ?_
        refine (ofChg_calls y.f0 Ay y.f1.length cy y.f2 _).mono ?_
        rintro e W5 ⟨rfl, hb5⟩
        refine ⟨_, rfl, ?_⟩
        have HSF := Lib.hid (HI2.out _ _ _ _ HSE.out hb5)
        clear hb5
        refine hK.out _ _ (⟨fun j v hv => HX.out _ (HI1.out _ _ _ HSF.out) j v hv, fun j v hv => HY.out _ (HI1.out _ _ _ HSF.out) j v hv⟩) (fun hHeld => ?_)
        clear hK K
        refine norm_ (a' := ?_) ?_ ?_
        rotate_left
        · show Act.put _ (some 41) _ = _
          simp only [Act.put, List.setIfInBounds_toArray, List.set_cons_zero, List.set_cons_succ, i64_w, i32_w]
          rfl
        refine one_ (i := 10) (N := some 42) #[true, true, true, true, true, true, true, true, true, true, true, false] rfl rfl (by kernel_rfl) (by decide) (fun K hK => ?_)
        refine goes_ Try.func114 (by kernel_rfl) rfl #[.string x.f0, .string y.f0] (by rfl) rfl rfl (by (try simp only [List.map_toArray, List.map_cons, List.map_nil]); first | done | rfl) ?_
        refine (cmpL_calls x.f0 y.f0 _).mono ?_
        rintro e W6 ⟨rfl, rfl⟩
        refine ⟨_, rfl, ?_⟩
        refine hK.out _ _ (⟨fun j v hv => HX.out _ (HI1.out _ _ _ HSF.out) j v hv, fun j v hv => HY.out _ (HI1.out _ _ _ HSF.out) j v hv⟩) (fun hHeld => ?_)
        clear hK K
        refine norm_ (a' := ?_) ?_ ?_
        rotate_left
        · show Act.put _ (some 42) _ = _
          simp only [Act.put, List.setIfInBounds_toArray, List.set_cons_zero, List.set_cons_succ, i64_w, i32_w]
          rfl
        refine pure_ (i := 11) (N := some 10) (v := ?_) (a' := ?_) #[true, true, true, true, true, true, true, true, true, true, true, true] rfl rfl (by kernel_rfl) (fun _ _ _ h => h) (Or.inl ⟨by rfl, ?_⟩) ?_ ?_
        rotate_left
        · intro w'
          go_simp
          with_reducible rfl
        rotate_left
        · simp only [Act.put, List.setIfInBounds_toArray, List.set_cons_zero, List.set_cons_succ, i64_w, i32_w]
          rfl
        refine done_ (by kernel_rfl) ?_
        have HSG := HSF
        obtain ⟨r, hr⟩ : ∃ r, cmpL x.f0 y.f0 = r := ⟨_, rfl⟩
        have HRR := Lib.hid (show bothL (fun x : RowS => x.f0) (fun x : S96 => x.f0) step (x :: a1) (y :: b1) s1 = if r < 0 then bothL (fun x : RowS => x.f0) (fun x : S96 => x.f0) step a1 (y :: b1) (step s1 (some x) none) else if 0 < r then bothL (fun x : RowS => x.f0) (fun x : S96 => x.f0) step (x :: a1) b1 (step s1 none (some y)) else bothL (fun x : RowS => x.f0) (fun x : S96 => x.f0) step a1 b1 (step s1 (some x) (some y)) by rw [← hr]; conv => lhs; unfold bothL)
        rw [hr]
        clear hr
        rcases Int.lt_trichotomy r 0 with hr | hr | hr
        · have KT := Lib.hid (HT.out.one)
          have HSG1 := HSG
          rw [show n1 + m1 = (a1.length + m1) + 1 by omega] at HSG1
          have HRS : Hid (bothL (fun x : RowS => x.f0) (fun x : S96 => x.f0) step a1 (y :: b1) (step s1 (some x) none) = R) := Lib.hid (by rw [← HR1.out, HRR.out, if_pos hr])
          go_wp2_with (first
            | (go_at_fn g; refine (KT.out _ _ _ ad x HSG1.out HEX.out HPX).mono ?_; rintro e w2 ⟨rfl, hs2⟩; have HS2 := Lib.hid hs2; clear hs2))
          go_roundg (a1.length + m1)
          case measure => omega
          case rel => exact ⟨a1.length, m1, a1, y :: b1, A2, some bd, c1 - 1, d1, step s1 (some x) none, Nat.le_refl _, by omega, hm1, by first | rfl | (congr 1; omega), rfl, by omega, hd1, Lib.hid rfl, HM1, HA2, HB1, HS2, HP2, HQ1, HRS⟩
        · subst hr
          have KT := Lib.hid (HT.out.both)
          rw [show n1 + m1 = (a1.length + b1.length) + 1 + 1 by omega] at HSG
          have HSG := Lib.hid (HI3.out _ _ _ HSG.out)
          have HRS : Hid (bothL (fun x : RowS => x.f0) (fun x : S96 => x.f0) step a1 b1 (step s1 (some x) (some y)) = R) := Lib.hid (by rw [← HR1.out, HRR.out, if_neg (by omega), if_neg (by omega)])
          go_upto_region 4 with (fail)
          have HSJ := Lib.hid (HI2.out _ _ _ _ HSG.out (below_drew (Below.refl W5.heap.size W5)))
          refine start_ (n := 6) (S := fun w' => True) (ds := []) #[false, false, false, false, false, false] (by kernel_rfl) rfl rfl trivial (fun hHeld => ?_)
          generalize W5.drew = W5d at HSJ ⊢
          refine pure_ (i := 0) (N := some 43) (v := ?_) (a' := ?_) #[true, false, false, false, false, false] rfl rfl (by kernel_rfl) (fun _ _ _ h => h) (Or.inl ⟨by rfl, ?_⟩) ?_ ?_
          rotate_left
          · intro w'
            go_simp
            with_reducible rfl
          rotate_left
          · simp only [Act.put, List.setIfInBounds_toArray, List.set_cons_zero, List.set_cons_succ, i64_w, i32_w]
            rfl
          refine pure_ (i := 1) (N := some 44) (v := ?_) (a' := ?_) #[true, true, false, false, false, false] rfl rfl (by kernel_rfl) (fun _ _ _ h => h) (Or.inl ⟨by rfl, ?_⟩) ?_ ?_
          rotate_left
          · intro w'
            go_simp
            with_reducible rfl
          rotate_left
          · simp only [Act.put, List.setIfInBounds_toArray, List.set_cons_zero, List.set_cons_succ, i64_w, i32_w]
            rfl
          refine pure_ (i := 2) (N := some 45) (v := ?_) (a' := ?_) #[true, true, true, false, false, false] rfl rfl (by kernel_rfl) (fun _ _ _ h => h) (Or.inl ⟨by rfl, ?_⟩) ?_ ?_
          rotate_left
          · intro w'
            go_simp
            with_reducible rfl
          rotate_left
          · simp only [Act.put, List.setIfInBounds_toArray, List.set_cons_zero, List.set_cons_succ, i64_w, i32_w]
            rfl
          refine pure_ (i := 3) (N := some 46) (v := ?_) (a' := ?_) #[true, true, true, true, false, false] rfl rfl (by kernel_rfl) (fun _ _ _ h => h) (Or.inl ⟨by rfl, ?_⟩) ?_ ?_
          rotate_left
          · intro w'
            go_simp
            with_reducible rfl
          rotate_left
          · simp only [Act.put, List.setIfInBounds_toArray, List.set_cons_zero, List.set_cons_succ, i64_w, i32_w]
            rfl
          refine pure_ (i := 4) (N := some 47) (v := ?_) (a' := ?_) #[true, true, true, true, true, false] rfl rfl (by kernel_rfl) (fun _ _ _ h => h) (Or.inl ⟨by rfl, ?_⟩) ?_ ?_
          rotate_left
          · intro w'
            go_simp
            with_reducible rfl
          rotate_left
          · simp only [Act.put, List.setIfInBounds_toArray, List.set_cons_zero, List.set_cons_succ, i64_w, i32_w]
            rfl
          refine one_ (i := 5) (N := some 48) #[true, true, true, true, true, true] rfl rfl (by kernel_rfl) (by decide) (fun K hK => ?_)
          refine goesV_ (f := g) eg (.tmp 43) cap #[.pointer (some ad), .pointer (some bd)] (by rfl) rfl rfl (by rfl) (by (try simp only [List.map_toArray, List.map_cons, List.map_nil]); first | done | rfl) ?_
          refine (KT.out _ _ _ ad x bd y HSJ.out HEX.out HPX HEY.out HQY).mono ?_
          rintro e W8 ⟨rfl, hs8⟩
          refine ⟨_, rfl, ?_⟩
          have HS2 := Lib.hid hs8
          clear hs8
          refine hK.out _ _ (trivial) (fun hHeld => ?_)
          clear hK K
          refine norm_ (a' := ?_) ?_ ?_
          rotate_left
          · show Act.put _ (some 48) _ = _
            simp only [Act.put, List.setIfInBounds_toArray, List.set_cons_zero, List.set_cons_succ, i64_w, i32_w]
            rfl
          refine done_ (by kernel_rfl) ?_
          go_upto_region 5 with (fail)
          go_quiet (fail)
          have HS3 := Lib.hid (HI2.out _ _ _ _ HS2.out (pw_below_drewN (Below.refl W8.heap.size W8) nq))
          generalize W8.drewN nq = W9 at HS3 ⊢
          go_wp2_with (fail)
          go_roundg (a1.length + b1.length)
          case measure => omega
          case rel => exact ⟨a1.length, b1.length, a1, b1, A2, B2, c1 - 1, d1 - 1, step s1 (some x) (some y), Nat.le_refl _, by omega, by omega, by first | rfl | (congr 1; omega), by first | rfl | (congr 1; omega), by omega, by omega, Lib.hid rfl, Lib.hid rfl, HA2, HB2, HS3, HP2, HQ2, HRS⟩
        · have KT := Lib.hid (HT.out.two)
          have HSG2 := HSG
          rw [show n1 + m1 = (n1 + b1.length) + 1 by omega] at HSG2
          have HRS : Hid (bothL (fun x : RowS => x.f0) (fun x : S96 => x.f0) step (x :: a1) b1 (step s1 none (some y)) = R) := Lib.hid (by rw [← HR1.out, HRR.out, if_neg (by omega), if_pos hr])
          go_wp2_with (first
            | (go_at_fn g; refine (KT.out _ _ _ bd y HSG2.out HEY.out HQY).mono ?_; rintro e w2 ⟨rfl, hs2⟩; have HS2 := Lib.hid hs2; clear hs2))
          go_roundg (n1 + b1.length)
          case measure => omega
          case rel => exact ⟨n1, b1.length, x :: a1, b1, some ad, B2, c1, d1 - 1, step s1 none (some y), Nat.le_refl _, hn1, by omega, rfl, by first | rfl | (congr 1; omega), hc1, by omega, HN1, Lib.hid rfl, HA1, HB2, HS2, HP1, HQ2, HRS⟩
set_option maxHeartbeats 4000000 in
set_option maxRecDepth 100000 in
theorem bothRR_calls {σ : Type} (g : Nat) (cap : Array Value) (eg : ∀ args w, (callFunc g args).run Try.prog w = .ok (.enter g args) w) (pa : RowS → Prop) (pb : S161 → Prop) (w0 : World) (I : Nat → σ → World → Prop) (step : σ → Option RowS → Option S161 → σ)
    (hT : TellW Try.prog g cap kRow kRow pa pb w0 I step) (hI1 : ∀ r s W, I r s W → Below w0.heap.size w0 W) (hI2 : ∀ r s W W', I r s W → Below W.heap.size W W' → I r s W') (hI3 : ∀ r s W, I (r + 1) s W → I r s W)
    (A B : Option Addr) (cA cB : Nat) (a : List RowS) (b : List S161) (hA : Kd.C kRow w0 A a.length a) (hB : Kd.C kRow w0 B b.length b) (hcA : a.length ≤ cA) (hcB : b.length ≤ cB) (s0 : σ) (w : World) (hs : I (a.length + b.length) s0 w) (hpa : ∀ x ∈ a, pa x) (hpb : ∀ x ∈ b, pb x) :
    Calls Try.prog 108 #[.slice A a.length cA, .slice B b.length cB, .func (.func 100) #[] #[], .func (.func 100) #[] #[], .func (.func g) #[] cap] w fun e w' => e = .returned (.tuple #[]) ∧ I 0 (bothL (fun x : RowS => x.f0) (fun x : S161 => x.f0) step a b s0) w' := by
  have hmA := Kd.C_max hA
  have hmB := Kd.C_max hB
  have HT := Lib.hid hT
  have HI1 := Lib.hid hI1
  have HI2 := Lib.hid hI2
  have HI3 := Lib.hid hI3
  have HPA := Lib.hid hpa
  have HPB := Lib.hid hpb
  obtain ⟨R, hR⟩ : ∃ R, bothL (fun x : RowS => x.f0) (fun x : S161 => x.f0) step a b s0 = R := ⟨_, rfl⟩
  rw [hR]
  have HA0 := Lib.hid hA
  have HB0 := Lib.hid hB
  have HR0 := Lib.hid hR
  have HS0 := Lib.hid hs
  have HMA := Lib.hid (show (a.length : Int) ≤ 9223372036854775807 by omega)
  have HMB := Lib.hid (show (b.length : Int) ≤ 9223372036854775807 by omega)
  clear hT hI1 hI2 hI3 hpa hpb hA hB hR hs hmA hmB
  obtain ⟨n, hn⟩ : ∃ n, a.length = n := ⟨_, rfl⟩
  obtain ⟨m, hm⟩ : ∃ m, b.length = m := ⟨_, rfl⟩
  have HN := Lib.hid hn
  have HM := Lib.hid hm
  rw [hn, hm] at HS0
  rw [hn] at hcA HA0 HMA ⊢
  rw [hm] at hcB HB0 HMB ⊢
  clear hn hm
  go_enter Try.func108, Try.ntmps108
  go_wp2
  go_loopg [0, 1] (n + m) (fun gg v0 v1 wr => ∃ (n1 m1 : Nat) (a1 : List RowS) (b1 : List S161) (A1 B1 : Option Addr) (c1 d1 : Nat) (s1 : σ), n1 + m1 ≤ gg ∧ n1 ≤ n ∧ m1 ≤ m ∧ v0 = .slice A1 n1 c1 ∧ v1 = .slice B1 m1 d1 ∧ n1 ≤ c1 ∧ m1 ≤ d1 ∧ Hid (a1.length = n1) ∧ Hid (b1.length = m1) ∧ Hid (Kd.C kRow w0 A1 n1 a1) ∧ Hid (Kd.C kRow w0 B1 m1 b1) ∧ Hid (I (n1 + m1) s1 wr) ∧ Hid (∀ x ∈ a1, pa x) ∧ Hid (∀ x ∈ b1, pb x) ∧ Hid (bothL (fun x : RowS => x.f0) (fun x : S161 => x.f0) step a1 b1 s1 = R))
  case atStart => exact ⟨n, m, a, b, A, B, cA, cB, s0, Nat.le_refl _, Nat.le_refl _, Nat.le_refl _, rfl, rfl, hcA, hcB, HN, HM, HA0, HB0, HS0, HPA, HPB, HR0⟩
  case round =>
    obtain ⟨n1, m1, a1, b1, A1, B1, c1, d1, s1, hg, hn1, hm1, rfl, rfl, hc1, hd1, HN1, HM1, HA1, HB1, HS1, HP1, HQ1, HR1⟩ := hrel
    have hmz : (n : Int) ≤ 9223372036854775807 := HMA.out
    have hmz2 : (m : Int) ≤ 9223372036854775807 := HMB.out
    have hinf : ∃ i, Try.prog.info? 161 = some i ∧ i.size = 2 := info_size info161
    have hinf2 : ∃ i, Try.prog.info? 161 = some i ∧ i.size = 2 := info_size info161
    obtain ⟨ia, hia1, hia2⟩ := hinf
    obtain ⟨ib, hib1, hib2⟩ := hinf2
    rcases a1 with _ | ⟨x, a1⟩
    · obtain rfl : n1 = 0 := by rw [← HN1.out]; rfl
      rcases b1 with _ | ⟨y, b1⟩
      · obtain rfl : m1 = 0 := by rw [← HM1.out]; rfl
        have hr : s1 = R := by rw [← HR1.out]; unfold bothL; rfl
        subst hr
        go_wp2_with (fail)
        exact bodyPost_end (results_none rfl _ _ _) rfl ⟨rfl, HS1.out⟩
      · have hlm : b1.length + 1 = m1 := HM1.out
        have hmp : 0 < m1 := by omega
        have hmpz : (0 : Int) < (m1 : Int) := by omega
        have h1m : (1 : Int) ≤ (m1 : Int) := by omega
        obtain ⟨bd, rfl, hy⟩ := el_head HB1.out hmp
        have HEY := Lib.hid hy
        have HQY := HQ1.out y (List.mem_cons_self ..)
        have HQ2 := Lib.hid (fun z hz => HQ1.out z (List.mem_cons_of_mem _ hz))
        have hcut := cut_from (P := Try.prog) 85 161 .i64 Try.underlying85 hib1 2 hib2 (some bd) m1 d1 1 (by omega) (by omega)
        obtain ⟨B2, hB2⟩ : ∃ B2, (if d1 = (1 : Int).toNat then some bd else (some bd).map (·.add ((1 : Int).toNat * 2))) = B2 := ⟨_, rfl⟩
        rw [hB2] at hcut
        have HB2 : Hid (Kd.C kRow w0 B2 b1.length b1) := Lib.hid (by have h := HB1.out; rw [← HM1.out] at h; have h3 := cut_one h (by rw [HM1.out]; exact hd1); rw [← hB2]; exact h3)
        clear hB2 hy
        have hci : cmpI (m1 : Int) 0 = 1 := by unfold cmpI; rw [if_neg (by omega), if_pos (by omega)]
        have KC := Lib.hid (fun W => cmpI_calls (m1 : Int) 0 W)
        rw [hci] at KC
        clear hci
        have KT := Lib.hid (HT.out.two)
        rw [show 0 + m1 = (0 + b1.length) + 1 by omega] at HS1
        go_wp2_with (first
          | (go_at_call 132; refine (KC.out _).mono ?_; rintro e w2 ⟨rfl, rfl⟩)
          | (go_at_fn g; refine (KT.out _ _ _ bd y HS1.out HEY.out HQY).mono ?_; rintro e w2 ⟨rfl, hs2⟩; have HS2 := Lib.hid hs2; clear hs2))
        go_roundg (0 + b1.length)
        case measure => omega
        case rel => exact ⟨0, b1.length, [], b1, A1, B2, c1, d1 - 1, step s1 none (some y), Nat.le_refl _, Nat.zero_le _, by omega, rfl, by first | rfl | (congr 1; omega), Nat.zero_le _, by omega, Lib.hid rfl, Lib.hid rfl, HA1, HB2, HS2, HP1, HQ2, Lib.hid (by rw [← HR1.out]; conv => rhs; unfold bothL)⟩
    · have hln : a1.length + 1 = n1 := HN1.out
      have hnp : 0 < n1 := by omega
      have hnpz : (0 : Int) < (n1 : Int) := by omega
      have h1n : (1 : Int) ≤ (n1 : Int) := by omega
      obtain ⟨ad, rfl, hx⟩ := el_head HA1.out hnp
      have HEX := Lib.hid hx
      have HPX := HP1.out x (List.mem_cons_self ..)
      have HP2 := Lib.hid (fun z hz => HP1.out z (List.mem_cons_of_mem _ hz))
      have hcuta := cut_from (P := Try.prog) 85 161 .i64 Try.underlying85 hia1 2 hia2 (some ad) n1 c1 1 (by omega) (by omega)
      obtain ⟨A2, hA2⟩ : ∃ A2, (if c1 = (1 : Int).toNat then some ad else (some ad).map (·.add ((1 : Int).toNat * 2))) = A2 := ⟨_, rfl⟩
      rw [hA2] at hcuta
      have HA2 : Hid (Kd.C kRow w0 A2 a1.length a1) := Lib.hid (by have h := HA1.out; rw [← HN1.out] at h; have h3 := cut_one h (by rw [HN1.out]; exact hc1); rw [← hA2]; exact h3)
      clear hA2 hx
      rcases b1 with _ | ⟨y, b1⟩
      · obtain rfl : m1 = 0 := by rw [← HM1.out]; rfl
        have hci : cmpI 0 (n1 : Int) = -1 := by unfold cmpI; rw [if_pos (by omega)]
        have KC := Lib.hid (fun W => cmpI_calls 0 (n1 : Int) W)
        rw [hci] at KC
        clear hci
        have KT := Lib.hid (HT.out.one)
        rw [show n1 + 0 = (a1.length + 0) + 1 by omega] at HS1
        go_wp2_with (first
          | (go_at_call 132; refine (KC.out _).mono ?_; rintro e w2 ⟨rfl, rfl⟩)
          | (go_at_fn g; refine (KT.out _ _ _ ad x HS1.out HEX.out HPX).mono ?_; rintro e w2 ⟨rfl, hs2⟩; have HS2 := Lib.hid hs2; clear hs2))
        go_roundg (a1.length + 0)
        case measure => omega
        case rel => exact ⟨a1.length, 0, a1, [], A2, B1, c1 - 1, d1, step s1 (some x) none, Nat.le_refl _, by omega, Nat.zero_le _, by first | rfl | (congr 1; omega), rfl, by omega, Nat.zero_le _, Lib.hid rfl, Lib.hid rfl, HA2, HB1, HS2, HP2, HQ1, Lib.hid (by rw [← HR1.out]; conv => rhs; unfold bothL)⟩
      · have hlm : b1.length + 1 = m1 := HM1.out
        have hmp : 0 < m1 := by omega
        have hmpz : (0 : Int) < (m1 : Int) := by omega
        have h1m : (1 : Int) ≤ (m1 : Int) := by omega
        obtain ⟨bd, rfl, hy⟩ := el_head HB1.out hmp
        have HEY := Lib.hid hy
        have HQY := HQ1.out y (List.mem_cons_self ..)
        have HQ2 := Lib.hid (fun z hz => HQ1.out z (List.mem_cons_of_mem _ hz))
        have hcutb := cut_from (P := Try.prog) 85 161 .i64 Try.underlying85 hib1 2 hib2 (some bd) m1 d1 1 (by omega) (by omega)
        obtain ⟨B2, hB2⟩ : ∃ B2, (if d1 = (1 : Int).toNat then some bd else (some bd).map (·.add ((1 : Int).toNat * 2))) = B2 := ⟨_, rfl⟩
        rw [hB2] at hcutb
        have HB2 : Hid (Kd.C kRow w0 B2 b1.length b1) := Lib.hid (by have h := HB1.out; rw [← HM1.out] at h; have h3 := cut_one h (by rw [HM1.out]; exact hd1); rw [← hB2]; exact h3)
        clear hB2 hy
        obtain ⟨ci, hci⟩ : ∃ ci, cmpI (m1 : Int) (n1 : Int) = ci := ⟨_, rfl⟩
        have KC := Lib.hid (fun W => cmpI_calls (m1 : Int) (n1 : Int) W)
        rw [hci] at KC
        clear hci
        obtain ⟨Ax, cx, _, _, hX⟩ := elRow HEX.out
        obtain ⟨Ay, cy, _, _, hY⟩ := elRow HEY.out
        have HX := Lib.hid hX
        have HY := Lib.hid hY
        clear hX hY
        go_upto_region 3 with (first
          | (go_at_call 132; refine (KC.out _).mono ?_; rintro e w2 ⟨rfl, rfl⟩))
        have HSD := Lib.hid (HI2.out _ _ _ _ HS1.out (below_drew (Below.refl wr.heap.size wr)))
        refine start_ (n := 12) (S := fun w' => (∀ j v, ([.string x.f0, .slice Ax x.f1.length cx] : List Value)[j]? = some v → w'.cell? (ad.add j) = some v) ∧ (∀ j v, ([.string y.f0, .slice Ay y.f1.length cy] : List Value)[j]? = some v → w'.cell? (bd.add j) = some v)) (ds := []) #[false, false, false, false, false, false, false, false, false, false, false, false] (by kernel_rfl) rfl rfl ⟨(fun j v hv => HX.out _ (HI1.out _ _ _ HSD.out) j v hv), (fun j v hv => HY.out _ (HI1.out _ _ _ HSD.out) j v hv)⟩ (fun hHeld => ?_)
        generalize wr.drew = W3d at HSD hHeld ⊢
        refine pure_ (i := 0) (N := some 32) (v := ?_) (a' := ?_) #[true, false, false, false, false, false, false, false, false, false, false, false] rfl rfl (by kernel_rfl) (fun _ _ _ h => h) (Or.inl ⟨by rfl, ?_⟩) ?_ ?_
        rotate_left
        · intro w'
          go_simp
          with_reducible rfl
        rotate_left
        · simp only [Act.put, List.setIfInBounds_toArray, List.set_cons_zero, List.set_cons_succ, i64_w, i32_w]
          rfl
        refine pure_ (i := 1) (N := some 33) (v := ?_) (a' := ?_) #[true, true, false, false, false, false, false, false, false, false, false, false] rfl rfl (by kernel_rfl) (fun _ _ _ h => h) (Or.inl ⟨by rfl, ?_⟩) ?_ ?_
        rotate_left
        · intro w'
          go_simp
          with_reducible rfl
        rotate_left
        · simp only [Act.put, List.setIfInBounds_toArray, List.set_cons_zero, List.set_cons_succ, i64_w, i32_w]
          rfl
        refine pure_ (i := 2) (N := some 34) (v := ?_) (a' := ?_) #[true, true, true, false, false, false, false, false, false, false, false, false] rfl rfl (by kernel_rfl) (fun _ _ _ h => h) (Or.inl ⟨by rfl, ?_⟩) ?_ ?_
        rotate_left
        · intro w'
          go_simp
          with_reducible rfl
        rotate_left
        · simp only [Act.put, List.setIfInBounds_toArray, List.set_cons_zero, List.set_cons_succ, i64_w, i32_w]
          rfl
        refine pure_ (i := 5) (N := some 37) (v := ?_) (a' := ?_) #[true, true, true, false, false, true, false, false, false, false, false, false] rfl rfl (by kernel_rfl) (fun _ _ _ h => h) (Or.inl ⟨by rfl, ?_⟩) ?_ ?_
        rotate_left
        · intro w'
          go_simp
          with_reducible rfl
        rotate_left
        · simp only [Act.put, List.setIfInBounds_toArray, List.set_cons_zero, List.set_cons_succ, i64_w, i32_w]
          rfl
        refine pure_ (i := 6) (N := some 38) (v := ?_) (a' := ?_) #[true, true, true, false, false, true, true, false, false, false, false, false] rfl rfl (by kernel_rfl) (fun _ _ _ h => h) (Or.inl ⟨by rfl, ?_⟩) ?_ ?_
        rotate_left
        · intro w'
          go_simp
          with_reducible rfl
        rotate_left
        · simp only [Act.put, List.setIfInBounds_toArray, List.set_cons_zero, List.set_cons_succ, i64_w, i32_w]
          rfl
        refine pure_ (i := 7) (N := some 39) (v := ?_) (a' := ?_) #[true, true, true, false, false, true, true, true, false, false, false, false] rfl rfl (by kernel_rfl) (fun _ _ _ h => h) (Or.inl ⟨by rfl, ?_⟩) ?_ ?_
        rotate_left
        · intro w'
          go_simp
          with_reducible rfl
        rotate_left
        · simp only [Act.put, List.setIfInBounds_toArray, List.set_cons_zero, List.set_cons_succ, i64_w, i32_w]
          rfl
        refine take_ (i := 3) (N := some 35) (v := ?_) (a' := ?_) #[true, true, true, true, false, true, true, true, false, false, false, false] rfl rfl (by kernel_rfl) (fun _ _ _ h => h) (Or.inl ⟨by rfl, ?_⟩) hHeld ?_ ?_
        rotate_left
        · rintro w' ⟨s0, s1⟩
          refine exec_load_any 161 (.tmp 34) ?_ ad ?_ [.string x.f0, .slice Ax x.f1.length cx] _ s0 Try.underlying161 rfl (by kernel_rfl)
          · rfl
          · rfl
        rotate_left
        · simp only [Act.put, List.setIfInBounds_toArray, List.set_cons_zero, List.set_cons_succ, i64_w, i32_w]
          rfl
        refine take_ (i := 8) (N := some 40) (v := ?_) (a' := ?_) #[true, true, true, true, false, true, true, true, true, false, false, false] rfl rfl (by kernel_rfl) (fun _ _ _ h => h) (Or.inl ⟨by rfl, ?_⟩) hHeld ?_ ?_
        rotate_left
        · rintro w' ⟨s0, s1⟩
          refine exec_load_any 161 (.tmp 39) ?_ bd ?_ [.string y.f0, .slice Ay y.f1.length cy] _ s1 Try.underlying161 rfl (by kernel_rfl)
          · rfl
          · rfl
        rotate_left
        · simp only [Act.put, List.setIfInBounds_toArray, List.set_cons_zero, List.set_cons_succ, i64_w, i32_w]
          rfl
        refine one_ (i := 4) (N := some 36) #[true, true, true, true, true, true, true, true, true, false, false, false] rfl rfl (by kernel_rfl) (by decide) (fun K hK => ?_)
        refine goesV_ (f := 100) (fun args w => by kernel_rfl) (.tmp 32) #[] #[.agg #[.string x.f0, .slice Ax x.f1.length cx]] (by rfl) rfl rfl (by rfl) (by (try simp only [List.map_toArray, List.map_cons, List.map_nil]); first | done | rfl) ?_
        refine (ofRow_calls x.f0 Ax x.f1.length cx _).mono ?_
        rintro e W4 ⟨rfl, hb4⟩
        refine ⟨_, rfl, ?_⟩
        have HSE := Lib.hid (HI2.out _ _ _ _ HSD.out hb4)
        clear hb4
        refine hK.out _ _ (⟨fun j v hv => HX.out _ (HI1.out _ _ _ HSE.out) j v hv, fun j v hv => HY.out _ (HI1.out _ _ _ HSE.out) j v hv⟩) (fun hHeld => ?_)
        clear hK K
        refine norm_ (a' := ?_) ?_ ?_
        rotate_left
        · show Act.put _ (some 36) _ = _
          simp only [Act.put, List.setIfInBounds_toArray, List.set_cons_zero, List.set_cons_succ, i64_w, i32_w]
          rfl
        refine one_ (i := 9) (N := some 41) #[true, true, true, true, true, true, true, true, true, true, false, false] rfl rfl (by kernel_rfl) (by decide) (fun K hK => ?_)
        refine goesV_ (f := 100) (fun args w => by kernel_rfl) (.tmp 37) #[] #[.agg #[.string y.f0, .slice Ay y.f1.length cy]] (by rfl) rfl rfl (by rfl) (by (try simp only [List.map_toArray, List.map_cons, List.map_nil]); first | done | rfl) ?_
        refine (ofRow_calls y.f0 Ay y.f1.length cy _).mono ?_
        rintro e W5 ⟨rfl, hb5⟩
        refine ⟨_, rfl, ?_⟩
        have HSF := Lib.hid (HI2.out _ _ _ _ HSE.out hb5)
        clear hb5
        refine hK.out _ _ (⟨fun j v hv => HX.out _ (HI1.out _ _ _ HSF.out) j v hv, fun j v hv => HY.out _ (HI1.out _ _ _ HSF.out) j v hv⟩) (fun hHeld => ?_)
        clear hK K
        refine norm_ (a' := ?_) ?_ ?_
        rotate_left
        · show Act.put _ (some 41) _ = _
          simp only [Act.put, List.setIfInBounds_toArray, List.set_cons_zero, List.set_cons_succ, i64_w, i32_w]
          rfl
        refine one_ (i := 10) (N := some 42) #[true, true, true, true, true, true, true, true, true, true, true, false] rfl rfl (by kernel_rfl) (by decide) (fun K hK => ?_)
        refine goes_ Try.func114 (by kernel_rfl) rfl #[.string x.f0, .string y.f0] (by rfl) rfl rfl (by (try simp only [List.map_toArray, List.map_cons, List.map_nil]); first | done | rfl) ?_
        refine (cmpL_calls x.f0 y.f0 _).mono ?_
        rintro e W6 ⟨rfl, rfl⟩
        refine ⟨_, rfl, ?_⟩
        refine hK.out _ _ (⟨fun j v hv => HX.out _ (HI1.out _ _ _ HSF.out) j v hv, fun j v hv => HY.out _ (HI1.out _ _ _ HSF.out) j v hv⟩) (fun hHeld => ?_)
        clear hK K
        refine norm_ (a' := ?_) ?_ ?_
        rotate_left
        · show Act.put _ (some 42) _ = _
          simp only [Act.put, List.setIfInBounds_toArray, List.set_cons_zero, List.set_cons_succ, i64_w, i32_w]
          rfl
        refine pure_ (i := 11) (N := some 10) (v := ?_) (a' := ?_) #[true, true, true, true, true, true, true, true, true, true, true, true] rfl rfl (by kernel_rfl) (fun _ _ _ h => h) (Or.inl ⟨by rfl, ?_⟩) ?_ ?_
        rotate_left
        · intro w'
          go_simp
          with_reducible rfl
        rotate_left
        · simp only [Act.put, List.setIfInBounds_toArray, List.set_cons_zero, List.set_cons_succ, i64_w, i32_w]
          rfl
        refine done_ (by kernel_rfl) ?_
        have HSG := HSF
        obtain ⟨r, hr⟩ : ∃ r, cmpL x.f0 y.f0 = r := ⟨_, rfl⟩
        have HRR := Lib.hid (show bothL (fun x : RowS => x.f0) (fun x : S161 => x.f0) step (x :: a1) (y :: b1) s1 = if r < 0 then bothL (fun x : RowS => x.f0) (fun x : S161 => x.f0) step a1 (y :: b1) (step s1 (some x) none) else if 0 < r then bothL (fun x : RowS => x.f0) (fun x : S161 => x.f0) step (x :: a1) b1 (step s1 none (some y)) else bothL (fun x : RowS => x.f0) (fun x : S161 => x.f0) step a1 b1 (step s1 (some x) (some y)) by rw [← hr]; conv => lhs; unfold bothL)
        rw [hr]
        clear hr
        rcases Int.lt_trichotomy r 0 with hr | hr | hr
        · have KT := Lib.hid (HT.out.one)
          have HSG1 := HSG
          rw [show n1 + m1 = (a1.length + m1) + 1 by omega] at HSG1
          have HRS : Hid (bothL (fun x : RowS => x.f0) (fun x : S161 => x.f0) step a1 (y :: b1) (step s1 (some x) none) = R) := Lib.hid (by rw [← HR1.out, HRR.out, if_pos hr])
          go_wp2_with (first
            | (go_at_fn g; refine (KT.out _ _ _ ad x HSG1.out HEX.out HPX).mono ?_; rintro e w2 ⟨rfl, hs2⟩; have HS2 := Lib.hid hs2; clear hs2))
          go_roundg (a1.length + m1)
          case measure => omega
          case rel => exact ⟨a1.length, m1, a1, y :: b1, A2, some bd, c1 - 1, d1, step s1 (some x) none, Nat.le_refl _, by omega, hm1, by first | rfl | (congr 1; omega), rfl, by omega, hd1, Lib.hid rfl, HM1, HA2, HB1, HS2, HP2, HQ1, HRS⟩
        · subst hr
          have KT := Lib.hid (HT.out.both)
          rw [show n1 + m1 = (a1.length + b1.length) + 1 + 1 by omega] at HSG
          have HSG := Lib.hid (HI3.out _ _ _ HSG.out)
          have HRS : Hid (bothL (fun x : RowS => x.f0) (fun x : S161 => x.f0) step a1 b1 (step s1 (some x) (some y)) = R) := Lib.hid (by rw [← HR1.out, HRR.out, if_neg (by omega), if_neg (by omega)])
          go_upto_region 4 with (fail)
          have HSJ := Lib.hid (HI2.out _ _ _ _ HSG.out (below_drew (Below.refl W5.heap.size W5)))
          refine start_ (n := 6) (S := fun w' => True) (ds := []) #[false, false, false, false, false, false] (by kernel_rfl) rfl rfl trivial (fun hHeld => ?_)
          generalize W5.drew = W5d at HSJ ⊢
          refine pure_ (i := 0) (N := some 43) (v := ?_) (a' := ?_) #[true, false, false, false, false, false] rfl rfl (by kernel_rfl) (fun _ _ _ h => h) (Or.inl ⟨by rfl, ?_⟩) ?_ ?_
          rotate_left
          · intro w'
            go_simp
            with_reducible rfl
          rotate_left
          · simp only [Act.put, List.setIfInBounds_toArray, List.set_cons_zero, List.set_cons_succ, i64_w, i32_w]
            rfl
          refine pure_ (i := 1) (N := some 44) (v := ?_) (a' := ?_) #[true, true, false, false, false, false] rfl rfl (by kernel_rfl) (fun _ _ _ h => h) (Or.inl ⟨by rfl, ?_⟩) ?_ ?_
          rotate_left
          · intro w'
            go_simp
            with_reducible rfl
          rotate_left
          · simp only [Act.put, List.setIfInBounds_toArray, List.set_cons_zero, List.set_cons_succ, i64_w, i32_w]
            rfl
          refine pure_ (i := 2) (N := some 45) (v := ?_) (a' := ?_) #[true, true, true, false, false, false] rfl rfl (by kernel_rfl) (fun _ _ _ h => h) (Or.inl ⟨by rfl, ?_⟩) ?_ ?_
          rotate_left
          · intro w'
            go_simp
            with_reducible rfl
          rotate_left
          · simp only [Act.put, List.setIfInBounds_toArray, List.set_cons_zero, List.set_cons_succ, i64_w, i32_w]
            rfl
          refine pure_ (i := 3) (N := some 46) (v := ?_) (a' := ?_) #[true, true, true, true, false, false] rfl rfl (by kernel_rfl) (fun _ _ _ h => h) (Or.inl ⟨by rfl, ?_⟩) ?_ ?_
          rotate_left
          · intro w'
            go_simp
            with_reducible rfl
          rotate_left
          · simp only [Act.put, List.setIfInBounds_toArray, List.set_cons_zero, List.set_cons_succ, i64_w, i32_w]
            rfl
          refine pure_ (i := 4) (N := some 47) (v := ?_) (a' := ?_) #[true, true, true, true, true, false] rfl rfl (by kernel_rfl) (fun _ _ _ h => h) (Or.inl ⟨by rfl, ?_⟩) ?_ ?_
          rotate_left
          · intro w'
            go_simp
            with_reducible rfl
          rotate_left
          · simp only [Act.put, List.setIfInBounds_toArray, List.set_cons_zero, List.set_cons_succ, i64_w, i32_w]
            rfl
          refine one_ (i := 5) (N := some 48) #[true, true, true, true, true, true] rfl rfl (by kernel_rfl) (by decide) (fun K hK => ?_)
          refine goesV_ (f := g) eg (.tmp 43) cap #[.pointer (some ad), .pointer (some bd)] (by rfl) rfl rfl (by rfl) (by (try simp only [List.map_toArray, List.map_cons, List.map_nil]); first | done | rfl) ?_
          refine (KT.out _ _ _ ad x bd y HSJ.out HEX.out HPX HEY.out HQY).mono ?_
          rintro e W8 ⟨rfl, hs8⟩
          refine ⟨_, rfl, ?_⟩
          have HS2 := Lib.hid hs8
          clear hs8
          refine hK.out _ _ (trivial) (fun hHeld => ?_)
          clear hK K
          refine norm_ (a' := ?_) ?_ ?_
          rotate_left
          · show Act.put _ (some 48) _ = _
            simp only [Act.put, List.setIfInBounds_toArray, List.set_cons_zero, List.set_cons_succ, i64_w, i32_w]
            rfl
          refine done_ (by kernel_rfl) ?_
          go_upto_region 5 with (fail)
          go_quiet (fail)
          have HS3 := Lib.hid (HI2.out _ _ _ _ HS2.out (pw_below_drewN (Below.refl W8.heap.size W8) nq))
          generalize W8.drewN nq = W9 at HS3 ⊢
          go_wp2_with (fail)
          go_roundg (a1.length + b1.length)
          case measure => omega
          case rel => exact ⟨a1.length, b1.length, a1, b1, A2, B2, c1 - 1, d1 - 1, step s1 (some x) (some y), Nat.le_refl _, by omega, by omega, by first | rfl | (congr 1; omega), by first | rfl | (congr 1; omega), by omega, by omega, Lib.hid rfl, Lib.hid rfl, HA2, HB2, HS3, HP2, HQ2, HRS⟩
        · have KT := Lib.hid (HT.out.two)
          have HSG2 := HSG
          rw [show n1 + m1 = (n1 + b1.length) + 1 by omega] at HSG2
          have HRS : Hid (bothL (fun x : RowS => x.f0) (fun x : S161 => x.f0) step (x :: a1) b1 (step s1 none (some y)) = R) := Lib.hid (by rw [← HR1.out, HRR.out, if_neg (by omega), if_pos hr])
          go_wp2_with (first
            | (go_at_fn g; refine (KT.out _ _ _ bd y HSG2.out HEY.out HQY).mono ?_; rintro e w2 ⟨rfl, hs2⟩; have HS2 := Lib.hid hs2; clear hs2))
          go_roundg (n1 + b1.length)
          case measure => omega
          case rel => exact ⟨n1, b1.length, x :: a1, b1, some ad, B2, c1, d1 - 1, step s1 none (some y), Nat.le_refl _, hn1, by omega, rfl, by first | rfl | (congr 1; omega), hc1, by omega, HN1, Lib.hid rfl, HA1, HB2, HS2, HP1, HQ2, HRS⟩
end Go.Proofs.Ytaoflcmjmhfblaa.D
