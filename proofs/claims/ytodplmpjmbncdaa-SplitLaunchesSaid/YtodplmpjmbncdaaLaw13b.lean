/- The statements SplitWhole and SplitLaunches of layer 13: the walks of the law functions. -/
import Derived.Test.YtodplmpjmbncdaaLaw13
namespace Go.Proofs.Ytodplmpjmbncdaa.H
open Go.RowKit Go.Proofs.YtodplmpjmbncdaaW.PrintWords Go.Proofs.YtodplmpjmbncdaaW.PrintLast Go.Proofs.YtodplmpjmbncdaaW.PrintMore
set_option linter.unusedVariables false
set_option linter.unusedSimpArgs false

/-- A block that was just made, told by a fact on a world with a name. -/
theorem abs_alloc {P : Program} {ops : Array Oper} {rest : List Oper} {a : Act} {w1 : World} {o : Obj} {Q : Exit → Act → World → Prop} (h : ∀ W : World, W.heap[w1.heap.size]? = some o → Below w1.heap.size w1 W → w1.heap.size < W.heap.size → wpList P ops Q rest a W) : wpList P ops Q rest a (w1.alloc o) :=
  h _ (heap_alloc_new w1 o) (below_alloc (Below.refl _ _) o) (by simp)
theorem split_may_of {b p d : Int} (h : 0 ≤ d ∧ d ≤ 65536 ∧ 0 ≤ b ∧ b ≤ 65536 ∧ 0 ≤ p ∧ p ≤ 100) : split_may b p d = true := decide_eq_true h
theorem sdemand_facts {b p n : Int} (hb : 0 ≤ b) (hp0 : 0 ≤ p) (hp : p ≤ 100) (hn : 0 ≤ n) : min n b ≤ sdemand b p n ∧ sdemand b p n ≤ n ∧ sdemand b p n ≤ sdemand b p (n + 1) ∧ sdemand b p (n + 1) ≤ sdemand b p n + 1 ∧ (p = 0 → sdemand b p n = min n b) := by
  unfold sdemand
  rcases Int.lt_or_le n b with h | h
  · rw [show min n b = n by omega, show min (n + 1) b = n + 1 by omega]
    simp
    omega
  · rw [show min n b = b by omega, show min (n + 1) b = b by omega, show n + 1 - b = (n - b) + 1 by omega, Int.add_mul, Int.one_mul]
    have h1 : 0 ≤ (n - b) * p := Int.mul_nonneg (by omega) hp0
    have h2 : (n - b) * p ≤ (n - b) * 100 := Int.mul_le_mul_of_nonneg_left hp (by omega)
    have h3 : p = 0 → (n - b) * p = 0 := by intro h; rw [h]; omega
    generalize (n - b) * p = q at *
    omega

set_option maxHeartbeats 2000000 in
set_option maxRecDepth 100000 in
theorem splitWhole_walk (b0 p0 d0 : Int) (w : World) (hb : (Lit.int .u32 b0).wf = true) (hp : (Lit.int .u8 p0).wf = true) (hd : (Lit.int .u32 d0).wf = true) :
    Calls Try.prog 12 #[.int .u32 b0, .int .u8 p0, .int .u32 d0] w fun e w' => e = .returned (.bool true) ∧ Below w.heap.size w w' := by
  have g1 := (bd_u32 hb).1
  have g2 := (bd_u8 hp).1
  have g3 := (bd_u32 hd).1
  obtain ⟨b, hb'⟩ : ∃ b, b0 % 65537 = b := ⟨_, rfl⟩
  obtain ⟨p, hp'⟩ : ∃ p, p0 % 101 = p := ⟨_, rfl⟩
  obtain ⟨n, hn'⟩ : ∃ n, d0 % 65536 = n := ⟨_, rfl⟩
  have b1 : 0 ≤ b := by omega
  have b2 : b ≤ 65536 := by omega
  have p1 : 0 ≤ p := by omega
  have p2 : p ≤ 100 := by omega
  have n1 : 0 ≤ n := by omega
  have n2 : n ≤ 65535 := by omega
  obtain ⟨f1, f2, f3, f4, z1⟩ := sdemand_facts (b := b) b1 p1 p2 n1
  obtain ⟨f5, f6, z2, z3, z4⟩ := sdemand_facts (b := b) b1 p1 p2 (show 0 ≤ n + 1 by omega)
  have k1 := swant_calls (cfgOf b p) n
  have k2 := swant_calls (cfgOf b p) (n + 1)
  have k3 := sfloor_calls (cfgOf b p) n
  have k0 := with_calls b p
  rw [show swant (cfgOf b p).base (cfgOf b p).percent n = (sdemand b p n, n - sdemand b p n) by simp [swant, cfgOf, split_may_of (show 0 ≤ n ∧ n ≤ 65536 ∧ 0 ≤ b ∧ b ≤ 65536 ∧ 0 ≤ p ∧ p ≤ 100 by omega)]] at k1
  rw [show swant (cfgOf b p).base (cfgOf b p).percent (n + 1) = (sdemand b p (n + 1), n + 1 - sdemand b p (n + 1)) by simp [swant, cfgOf, split_may_of (show 0 ≤ n + 1 ∧ n + 1 ≤ 65536 ∧ 0 ≤ b ∧ b ≤ 65536 ∧ 0 ≤ p ∧ p ≤ 100 by omega)]] at k2
  rw [show sfloor (cfgOf b p).base (cfgOf b p).percent n = min n b by simp [sfloor, cfgOf, split_may_of (show 0 ≤ n ∧ n ≤ 65536 ∧ 0 ≤ b ∧ b ≤ 65536 ∧ 0 ≤ p ∧ p ≤ 100 by omega)]] at k3
  simp only [Cfg.val, Cfg.cells, Sl.val, cfgOf] at k0 k1 k2 k3
  clear z1 z2 z3 z4
  have f9 : 0 ≤ min n b := by omega
  generalize sdemand b p n = A at *
  generalize sdemand b p (n + 1) = X at *
  generalize min n b = F at *
  have f0 : 0 ≤ A := by omega
  obtain ⟨S, hS⟩ : ∃ S, n - A = S := ⟨_, rfl⟩
  obtain ⟨T, hT⟩ : ∃ T, n + 1 - X = T := ⟨_, rfl⟩
  rw [hS] at k1
  rw [hT] at k2
  have t1 : (A + S == n) = true := by simp; omega
  have t2 : (X + T == n + 1) = true := by simp; omega
  have t3 : 0 ≤ S := by omega
  have t4 : S ≤ T := by omega
  have t5 : T ≤ 65536 := by omega
  have K0 := Lib.hid k0
  have K1 := Lib.hid k1
  have K2 := Lib.hid k2
  have K3 := Lib.hid k3
  have HB := Lib.hid (Below.refl w.heap.size w)
  clear k0 k1 k2 k3 hS hT hb hp hd f5
  go_enter Try.func12, Try.ntmps12
  go_wp2_with (first
    | ((with_reducible refine gate_storeT 45 rfl ?_); refine wpList_store_row rfl 45 _ _ rfl _ _ rfl rfl 45 _ (heap_alloc_new _ _) (by kernel_rfl) rfl (by simp [Value.oneCell']) ?_; rw [setRow_alloc]; refine abs_alloc fun W hX hbW hlt => ?_; have HX := Lib.hid hX; clear hX; have HB' := Lib.hid (below_chain (w := w) (by repeat (first | exact HB.out | exact Below.refl _ _ | apply pw_below_drewN | apply below_drew | apply below_alloc)) hbW); clear HB; have HB := HB'; clear HB' hbW)
    | ((with_reducible refine gate_load 45 rfl ?_); refine wpList_load_row rfl 45 _ rfl _ rfl 45 _ _ _ (by exact HX.out) Try.underlying45 rfl (by kernel_rfl) ?_)
    | ((with_reducible refine gate_load 45 rfl ?_); refine load_row_g (by rfl) 45 _ rfl _ rfl 45 _ _ _ (by exact HX.out) Try.underlying45 rfl (by kernel_rfl) ?_)
    | (go_at_call 39; refine (K0.out _).mono ?_; rintro e w1 ⟨rfl, hb⟩; have HB' := Lib.hid (below_chain (w := w) (by repeat (first | exact HB.out | exact Below.refl _ _ | apply pw_below_drewN | apply below_drew | apply below_alloc)) hb); clear HB; have HB := HB'; clear HB'; clear hb)
    | (go_at_call 40; (first | (with_reducible refine (K1.out _).mono ?_) | (with_reducible refine (K2.out _).mono ?_)); rintro e w1 ⟨rfl, hb⟩; have HB' := Lib.hid (below_chain (w := w) (by repeat (first | exact HB.out | exact Below.refl _ _ | apply pw_below_drewN | apply below_drew | apply below_alloc)) hb); clear HB; have HB := HB'; clear HB'; have HX' := Lib.hid ((hb.block _ hlt).trans HX.out); clear HX; have HX := HX'; clear HX'; have hlt' := Nat.lt_of_lt_of_le hlt hb.size; clear hlt; have hlt := hlt'; clear hlt'; clear hb)
    | (go_at_call 41; refine (K3.out _).mono ?_; rintro e w1 ⟨rfl, hb⟩; have HB' := Lib.hid (below_chain (w := w) (by repeat (first | exact HB.out | exact Below.refl _ _ | apply pw_below_drewN | apply below_drew | apply below_alloc)) hb); clear HB; have HB := HB'; clear HB'; have HX' := Lib.hid ((hb.block _ hlt).trans HX.out); clear HX; have HX := HX'; clear HX'; have hlt' := Nat.lt_of_lt_of_le hlt hb.size; clear hlt; have hlt := hlt'; clear hlt'; clear hb)
    | (go_at_call 38; refine (lives13 _).mono ?_; rintro e w1 ⟨rfl, hb⟩; have HB' := Lib.hid (below_chain (w := w) (by repeat (first | exact HB.out | exact Below.refl _ _ | apply pw_below_drewN | apply below_drew | apply below_alloc)) hb); clear HB; have HB := HB'; clear HB'; clear hb))
  all_goals first | (exfalso; omega) | (go_ret; exact ⟨rfl, (by repeat (first | exact HB.out | exact Below.refl _ _ | apply pw_below_drewN | apply below_drew | apply below_alloc))⟩)

theorem snext_step {b p n d s : Int} (hm : split_may b p n = true) (d0 : 0 ≤ d) (s0 : 0 ≤ s) (hd : d ≤ sdemand b p n) (hs : s ≤ n - sdemand b p n) :
    snext b p n d s = if d + s < n then (decide (sdemand b p n ≤ d), true) else (false, false) := by
  obtain ⟨h1, h2, h3, h4, h5, h6⟩ := split_may_iff hm
  obtain ⟨f1, f2, f3, f4, f5⟩ := sdemand_facts (b := b) h3 h5 h6 h1
  unfold snext
  rw [show swant b p n = (sdemand b p n, n - sdemand b p n) by simp [swant, hm], show sfloor b p n = min n b by simp [sfloor, hm]]
  by_cases h : d + s < n
  · rw [if_neg (by omega), if_pos h]
    by_cases hA : sdemand b p n ≤ d
    · simp [hA]; omega
    · by_cases hp : p = 0
      · have := f5 hp
        have h7 : ¬ min n b ≤ d := by omega
        simp only [hA, h7, decide_false, Bool.and_false, Bool.or_false]
      · simp [hA, hp]
  · rw [if_pos (by omega), if_neg h]

set_option maxHeartbeats 2000000 in
set_option maxRecDepth 100000 in
theorem splitLaunches_walk (b0 p0 d0 : Int) (w : World) (hb : (Lit.int .u8 b0).wf = true) (hp : (Lit.int .u8 p0).wf = true) (hd : (Lit.int .u16 d0).wf = true) :
    Calls Try.prog 13 #[.int .u8 b0, .int .u8 p0, .int .u16 d0] w fun e w' => e = .returned (.bool true) ∧ Below w.heap.size w w' := by
  obtain ⟨b1, b2⟩ := bd_u8 hb
  have g2 := (bd_u8 hp).1
  have g3 := (bd_u16 hd).1
  obtain ⟨p, hp'⟩ : ∃ p, p0 % 101 = p := ⟨_, rfl⟩
  obtain ⟨n, hn'⟩ : ∃ n, d0 % 301 = n := ⟨_, rfl⟩
  have p1 : 0 ≤ p := by omega
  have p2 : p ≤ 100 := by omega
  have n1 : 0 ≤ n := by omega
  have n2 : n ≤ 300 := by omega
  have hm : split_may b0 p n = true := split_may_of (by omega)
  obtain ⟨f1, f2, z1, z2, z3⟩ := sdemand_facts (b := b0) b1 p1 p2 n1
  clear z1 z2 z3
  have k0 := with_calls b0 p
  have k1 := swant_calls (cfgOf b0 p) n
  rw [show swant (cfgOf b0 p).base (cfgOf b0 p).percent n = (sdemand b0 p n, n - sdemand b0 p n) by simp [swant, cfgOf, hm]] at k1
  have k2 := fun (d s : Int) (w : World) (d0 : 0 ≤ d) (s0 : 0 ≤ s) (hd : d ≤ sdemand b0 p n) (hs : s ≤ n - sdemand b0 p n) =>
    snext_step hm d0 s0 hd hs ▸ snext_calls (cfgOf b0 p) n d s w hm d0 (by omega) s0 (by omega)
  simp only [Cfg.val, Cfg.cells, Sl.val, cfgOf] at k0 k1 k2
  generalize sdemand b0 p n = A at *
  have f0 : 0 ≤ A := by omega
  have K0 := Lib.hid k0
  have K1 := Lib.hid k1
  have K2 := Lib.hid k2
  have HB := Lib.hid (Below.refl w.heap.size w)
  clear k0 k1 k2 hb hp hd f1 hm
  go_enter Try.func13, Try.ntmps13
  go_wp2_with (first
    | ((with_reducible refine gate_storeT 45 rfl ?_); refine wpList_store_row rfl 45 _ _ rfl _ _ rfl rfl 45 _ (heap_alloc_new _ _) (by kernel_rfl) rfl (by simp [Value.oneCell']) ?_; rw [setRow_alloc]; refine abs_alloc fun W hX hbW hlt => ?_; have HX := Lib.hid hX; clear hX; have HB' := Lib.hid (below_chain (w := w) (by repeat (first | exact HB.out | exact Below.refl _ _ | apply pw_below_drewN | apply below_drew | apply below_alloc)) hbW); clear HB; have HB := HB'; clear HB' hbW)
    | (go_at_call 39; refine (K0.out _).mono ?_; rintro e w1 ⟨rfl, hb⟩; have HB' := Lib.hid (below_chain (w := w) (by repeat (first | exact HB.out | exact Below.refl _ _ | apply pw_below_drewN | apply below_drew | apply below_alloc)) hb); clear HB; have HB := HB'; clear HB'; clear hb))
  go_loopw [9, 10, 11] (fun v9 v10 v11 wr => ∃ d s : Int, 0 ≤ d ∧ 0 ≤ s ∧ d ≤ A ∧ s ≤ n - A ∧ v9 = .int .i64 d ∧ v10 = .int .i64 s ∧ v11 = .int .i64 (d + s) ∧ (0 < s → d = A) ∧ Below w.heap.size w wr ∧ Hid (wr.heap[w1.heap.size]? = some (.cells #[.slice none 0 0, .int .u8 0, .int .i64 0, .bool false, .int .i64 0, .int .i64 0, .int .i64 b0, .int .i64 p, .int .i64 0, .int .i64 0, .int .u64 0, .int .u64 0, .int .u64 0, .int .u64 0, .int .u64 0, .int .u64 0, .bool false, .int .i64 0, .slice none 0 0, .slice none 0 0] 45 (0, 0))) ∧ w1.heap.size < wr.heap.size)
    (fun _ _ v11 _ => n.toNat - (intOf v11).toNat)
  case atStart => exact ⟨0, 0, by omega, by omega, by omega, by omega, rfl, rfl, rfl, by omega, HB.out, HX, hlt⟩
  case round =>
    clear HB HX hlt hn' hp'
    obtain ⟨d, s, e1, e2, e3, e4, rfl, rfl, rfl, e5, hb, HX, hlt⟩ := hrel
    have HB := Lib.hid hb
    have E5 := Lib.hid e5
    clear hb e5
    by_cases h : d + s < n
    · have k3 := fun w => K2.out d s w e1 e2 e3 e4
      simp only [if_pos h] at k3
      have K3 := Lib.hid k3
      clear k3
      by_cases hA : A ≤ d
      · go_wp2_with (first | ((with_reducible refine gate_load 45 rfl ?_); refine wpList_load_row rfl 45 _ rfl _ rfl 45 _ _ _ (by exact HX.out) Try.underlying45 rfl (by kernel_rfl) ?_) | (go_at_call 42; refine (K3.out _).mono ?_; rintro e w1 ⟨rfl, hb⟩; have HB' := Lib.hid (below_chain (w := w) (by repeat (first | exact HB.out | exact Below.refl _ _ | apply pw_below_drewN | apply below_drew | apply below_alloc)) hb); clear HB; have HB := HB'; clear HB'; have HX' := Lib.hid ((hb.block _ hlt).trans HX.out); clear HX; have HX := HX'; clear HX'; have hlt' := Nat.lt_of_lt_of_le hlt hb.size; clear hlt; have hlt := hlt'; clear hlt'; clear hb))
        go_roundw
        case rel => exact ⟨d, s + 1, e1, by omega, e3, by omega, rfl, rfl, by go_num, by omega, HB.out, HX, hlt⟩
        case measure => simp [intOf]; omega
      · go_wp2_with (first | ((with_reducible refine gate_load 45 rfl ?_); refine wpList_load_row rfl 45 _ rfl _ rfl 45 _ _ _ (by exact HX.out) Try.underlying45 rfl (by kernel_rfl) ?_) | (go_at_call 42; refine (K3.out _).mono ?_; rintro e w1 ⟨rfl, hb⟩; have HB' := Lib.hid (below_chain (w := w) (by repeat (first | exact HB.out | exact Below.refl _ _ | apply pw_below_drewN | apply below_drew | apply below_alloc)) hb); clear HB; have HB := HB'; clear HB'; have HX' := Lib.hid ((hb.block _ hlt).trans HX.out); clear HX; have HX := HX'; clear HX'; have hlt' := Nat.lt_of_lt_of_le hlt hb.size; clear hlt; have hlt := hlt'; clear hlt'; clear hb))
        go_roundw
        case rel => exact ⟨d + 1, s, by omega, e2, by omega, e4, rfl, rfl, by go_num, by have := E5.out; omega, HB.out, HX, hlt⟩
        case measure => simp [intOf]; omega
    · have k3 := fun w => K2.out d s w e1 e2 e3 e4
      simp only [if_neg h] at k3
      have K3 := Lib.hid k3
      clear k3
      have hdA : d = A := by have := E5.out; omega
      have hsA : s = n - A := by omega
      have t1 : (d == A) = true := by simpa using hdA
      obtain ⟨S, hS⟩ : ∃ S, n - A = S := ⟨_, rfl⟩
      have t2 : (s == S) = true := by simp; omega
      have k4 := K1.out
      rw [hS] at k4
      have K4 := Lib.hid k4
      clear hdA hsA hS k4
      go_wp2_with (first | ((with_reducible refine gate_load 45 rfl ?_); refine wpList_load_row rfl 45 _ rfl _ rfl 45 _ _ _ (by exact HX.out) Try.underlying45 rfl (by kernel_rfl) ?_) | (go_at_call 42; refine (K3.out _).mono ?_; rintro e w1 ⟨rfl, hb⟩; have HB' := Lib.hid (below_chain (w := w) (by repeat (first | exact HB.out | exact Below.refl _ _ | apply pw_below_drewN | apply below_drew | apply below_alloc)) hb); clear HB; have HB := HB'; clear HB'; have HX' := Lib.hid ((hb.block _ hlt).trans HX.out); clear HX; have HX := HX'; clear HX'; have hlt' := Nat.lt_of_lt_of_le hlt hb.size; clear hlt; have hlt := hlt'; clear hlt'; clear hb) | (go_at_call 40; refine (K4.out _).mono ?_; rintro e w1 ⟨rfl, hb⟩; have HB' := Lib.hid (below_chain (w := w) (by repeat (first | exact HB.out | exact Below.refl _ _ | apply pw_below_drewN | apply below_drew | apply below_alloc)) hb); clear HB; have HB := HB'; clear HB'; have HX' := Lib.hid ((hb.block _ hlt).trans HX.out); clear HX; have HX := HX'; clear HX'; have hlt' := Nat.lt_of_lt_of_le hlt hb.size; clear hlt; have hlt := hlt'; clear hlt'; clear hb) | (go_at_call 38; refine (lives13 _).mono ?_; rintro e w1 ⟨rfl, hb⟩; have HB' := Lib.hid (below_chain (w := w) (by repeat (first | exact HB.out | exact Below.refl _ _ | apply pw_below_drewN | apply below_drew | apply below_alloc)) hb); clear HB; have HB := HB'; clear HB'; clear hb))
      all_goals first | (exfalso; omega) | (go_ret; exact ⟨rfl, (by repeat (first | exact HB.out | exact Below.refl _ _ | apply pw_below_drewN | apply below_drew | apply below_alloc))⟩)
end Go.Proofs.Ytodplmpjmbncdaa.H
