/- The document's answer for layer 2: ref02.Is and ref02.Compare compute what name.Is and name.Compare compute. -/
import Derived.Test.YtnlcpgeapgnkgaaIs
import Derived.PlainAid
namespace Go.Proofs.Ytnlcpgeapgnkgaa.H
open Go.RowKit Go.Proofs.YtnlcpgeapgnkgaaW.PrintWords Go.Proofs.YtnlcpgeapgnkgaaW.PrintLast Go.Proofs.YtnlcpgeapgnkgaaW.PrintMore
open Go.PlainAid (get_bt bt_nonneg bt_le)
set_option linter.unusedVariables false
set_option linter.unusedSimpArgs false

theorem letter_calls (c : Int) (w : World) (h0 : 0 ≤ c) (h1 : c ≤ 255) : Calls Try.prog 42 #[.int .u8 c] w fun e w' => e = .returned (.bool (decide (whatI c = 1))) ∧ w = w' := by
  have hc : c < 97 ∨ (97 ≤ c ∧ c ≤ 122) ∨ 122 < c := by omega
  obtain ⟨r, hr⟩ : ∃ r, decide (whatI c = 1) = r := ⟨_, rfl⟩
  have hR : r = decide (97 ≤ c ∧ c ≤ 122) := by
    rw [← hr, decide_eq_decide]; unfold whatI
    repeat' split
    all_goals omega
  rw [hr]
  have HR := Lib.hid hR
  clear hr hR
  rcases hc with h | ⟨h, h'⟩ | h
  all_goals
    go_enter Try.func42, Try.ntmps42
    go_wp2
  all_goals first
    | (exfalso; omega)
    | (go_ret; exact ⟨ret_b (HR.out.trans (decide_eq_true (by omega))).symm, rfl⟩)
    | (go_ret; exact ⟨ret_b (HR.out.trans (decide_eq_false (by omega))).symm, rfl⟩)
    | (go_ret; exact ⟨ret_b (by rw [HR.out, decide_eq_decide]; omega), rfl⟩)
theorem digit_calls (c : Int) (w : World) (h0 : 0 ≤ c) (h1 : c ≤ 255) : Calls Try.prog 43 #[.int .u8 c] w fun e w' => e = .returned (.bool (decide (whatI c = 2))) ∧ w = w' := by
  have hc : c < 48 ∨ (48 ≤ c ∧ c ≤ 57) ∨ 57 < c := by omega
  obtain ⟨r, hr⟩ : ∃ r, decide (whatI c = 2) = r := ⟨_, rfl⟩
  have hR : r = decide (48 ≤ c ∧ c ≤ 57) := by
    rw [← hr, decide_eq_decide]; unfold whatI
    repeat' split
    all_goals omega
  rw [hr]
  have HR := Lib.hid hR
  clear hr hR
  rcases hc with h | ⟨h, h'⟩ | h
  all_goals
    go_enter Try.func43, Try.ntmps43
    go_wp2
  all_goals first
    | (exfalso; omega)
    | (go_ret; exact ⟨ret_b (HR.out.trans (decide_eq_true (by omega))).symm, rfl⟩)
    | (go_ret; exact ⟨ret_b (HR.out.trans (decide_eq_false (by omega))).symm, rfl⟩)
    | (go_ret; exact ⟨ret_b (by rw [HR.out, decide_eq_decide]; omega), rfl⟩)
theorem bt_get (s : ByteArray) (i : Nat) (h : i < s.size) : (strN s)[i]? = some (PlainAid.bt s i) := by
  have h2 := strN_get s i h
  have h3 : i < (strN s).length := by rw [strN_len]; exact h
  rw [List.getD_eq_getElem?_getD, List.getElem?_eq_getElem h3] at h2
  rw [List.getElem?_eq_getElem h3, ← get_bt s i h]
  exact congrArg some h2
theorem lt_at {a b : ByteArray} (i : Nat) (ha : i < a.size) (hb : i < b.size) (he : ∀ k, k < i → PlainAid.bt a k = PlainAid.bt b k) (h : PlainAid.bt a i < PlainAid.bt b i) : a.data.toList < b.data.toList := by
  have la : a.data.toList.length = a.size := by simp
  have lb : b.data.toList.length = b.size := by simp
  have cell : ∀ (s : ByteArray) (k : Nat) (hk : k < s.size) (h' : k < s.data.toList.length), ((s.data.toList[k]'h').toNat : Int) = PlainAid.bt s k := fun s k hk h' => by
    rw [← get_bt s k hk, Array.getElem_toList]; rfl
  refine List.lt_iff_exists.2 (Or.inr ⟨i, by omega, by omega, fun j hj => ?_, ?_⟩)
  · have := he j hj
    rw [← cell a j (by omega) (by omega), ← cell b j (by omega) (by omega)] at this
    exact UInt8.toNat_inj.1 (by omega)
  · rw [← cell a i ha (by omega), ← cell b i hb (by omega)] at h
    exact UInt8.lt_iff_toNat_lt.2 (by omega)
theorem eq_all {a b : ByteArray} (hs : a.size = b.size) (he : ∀ k, k < a.size → PlainAid.bt a k = PlainAid.bt b k) : a = b := by
  have : a.data.toList = b.data.toList := by
    apply List.ext_getElem (by simp; exact hs)
    intro k h1 h2
    have h1' : k < a.size := by simpa using h1
    have h2' : k < b.size := by omega
    have := he k h1'
    rw [← get_bt a k h1', ← get_bt b k h2'] at this
    rw [Array.getElem_toList, Array.getElem_toList]
    have : (a[k]'h1').toNat = (b[k]'h2').toNat := by omega
    exact UInt8.toNat_inj.1 this
  cases a; cases b; congr; exact Array.toList_inj.1 this
set_option maxHeartbeats 2000000 in
set_option maxRecDepth 100000 in
theorem refis_calls (s : ByteArray) (w : World) (hs : s.size ≤ 140737488351232) : Calls Try.prog 17 #[.string s] w fun e w' => e = .returned (.bool (isL (strN s))) ∧ w = w' := by
  have hl := strN_len s
  have hb := get_bt s
  have hg := bt_get s
  have b0 := bt_nonneg s
  have b1 := bt_le s
  have KL := Lib.hid (fun i W => letter_calls (PlainAid.bt s i) W (b0 i) (b1 i))
  have KD := Lib.hid (fun i W => digit_calls (PlainAid.bt s i) W (b0 i) (b1 i))
  obtain ⟨n, hn⟩ : ∃ n, s.size = n := ⟨_, rfl⟩
  rcases Nat.eq_zero_or_pos n with h0 | h0
  · have hr : isL (strN s) = false := by unfold isL; rw [hl, decide_eq_false (by omega)]; rfl
    rw [hr]
    clear hl hr hb hg b0 b1 KL KD
    go_enter Try.func17, Try.ntmps17
    go_wp2_with (fail)
    all_goals first | (exfalso; omega) | (go_ret; exact ⟨rfl, rfl⟩)
  · by_cases h1 : 24 < n
    · have hr : isL (strN s) = false := by unfold isL; rw [hl, decide_eq_true (by omega), decide_eq_false (by omega)]; rfl
      rw [hr]
      clear hl hr hb hg b0 b1 KL KD
      go_enter Try.func17, Try.ntmps17
      go_wp2_with (fail)
      all_goals first | (exfalso; omega) | (go_ret; exact ⟨rfl, rfl⟩)
    · have g0 : (strN s).getD 0 0 = PlainAid.bt s 0 := by rw [List.getD_eq_getElem?_getD, hg 0 (by omega)]; rfl
      have g1 : (strN s).getD (n - 1) 0 = PlainAid.bt s (n - 1) := by rw [List.getD_eq_getElem?_getD, hg (n - 1) (by omega)]; rfl
      have hd : ∀ c : Int, decide (whatI c = 3) = decide (c = 45) := fun c => by
        rw [decide_eq_decide]; unfold whatI
        repeat' split
        all_goals omega
      have hr : isL (strN s) = (decide (whatI (PlainAid.bt s 0) = 1) && (!decide (PlainAid.bt s (n - 1) = 45) && !(strN s).any (fun c => decide (whatI c = 0)))) := by
        unfold isL
        rw [hl, hn, decide_eq_true h0, decide_eq_true (by omega), g0, g1, hd]; rfl
      rw [hr]
      have K0 := fun W => KL.out 0 W
      clear hr g0 g1
      obtain ⟨q0, hq0⟩ : ∃ q, decide (whatI (PlainAid.bt s 0) = 1) = q := ⟨_, rfl⟩
      rw [hq0] at K0 ⊢
      have K0 := Lib.hid K0
      have HG := Lib.hid hg
      have HD := Lib.hid hd
      have B0 := Lib.hid b0
      have B1 := Lib.hid b1
      have HL := Lib.hid hl
      clear hq0 hg hd b0 b1 hl
      cases q0 with
      | false =>
        go_enter Try.func17, Try.ntmps17
        go_wp2_with (first | (go_at_call 42; refine (K0.out _).mono ?_; rintro e w' ⟨rfl, rfl⟩))
        all_goals first | (exfalso; omega) | (go_ret; exact ⟨rfl, rfl⟩)
      | true =>
        obtain ⟨z, hz⟩ : ∃ z, PlainAid.bt s (n - 1) = z := ⟨_, rfl⟩
        rw [hz]
        by_cases h45 : z = 45
        · rw [decide_eq_true h45]
          go_enter Try.func17, Try.ntmps17
          go_wp2_with (first | (go_at_call 42; refine (K0.out _).mono ?_; rintro e w' ⟨rfl, rfl⟩))
          all_goals first | (exfalso; omega) | (go_ret; exact ⟨rfl, rfl⟩)
        · rw [decide_eq_false h45]
          have hq45 : (z == 45) = false := by simpa using h45
          go_enter Try.func17, Try.ntmps17
          go_wp2_with (first | (go_at_call 42; refine (K0.out _).mono ?_; rintro e w' ⟨rfl, rfl⟩))
          any_goals (exfalso; omega)
          clear K0 h45
          go_loopw [3] (fun v3 wr => ∃ i : Nat, i ≤ n ∧ v3 = .int .i64 i ∧ Hid (((strN s).take i).any (fun c => decide (whatI c = 0)) = false) ∧ wr = w) (fun v3 _ => n - (intOf v3).toNat)
          case atStart => exact ⟨0, by omega, rfl, Lib.hid rfl, rfl⟩
          case round =>
            obtain ⟨i, hi, rfl, HA, rfl⟩ := hrel
            by_cases hlt : i < n
            · have g := HG.out i (by omega)
              have k1 := fun W => KL.out i W
              have k2 := fun W => KD.out i W
              have h0' := B0.out i
              have h1' := B1.out i
              obtain ⟨x, hx⟩ : ∃ x, PlainAid.bt s i = x := ⟨_, rfl⟩
              rw [hx] at g k1 k2 h0' h1'
              have HX := Lib.hid g
              have k3 : decide (whatI x = 0) = (!decide (whatI x = 1) && (!decide (whatI x = 2) && !decide (x = 45))) := by
                rw [← HD.out x]
                by_cases e1 : whatI x = 1
                · rw [e1]; rfl
                · by_cases e2 : whatI x = 2
                  · rw [e2]; rfl
                  · by_cases e3 : whatI x = 3
                    · rw [e3]; rfl
                    · have : whatI x = 0 := by
                        revert e1 e2 e3; unfold whatI
                        repeat' split
                        all_goals omega
                      rw [this]; rfl
              obtain ⟨p1, hp1⟩ : ∃ p, decide (whatI x = 1) = p := ⟨_, rfl⟩
              obtain ⟨p2, hp2⟩ : ∃ p, decide (whatI x = 2) = p := ⟨_, rfl⟩
              rw [hp1] at k1 k3
              rw [hp2] at k2 k3
              have K1 := Lib.hid k1
              have K2 := Lib.hid k2
              have K3 := Lib.hid k3
              clear g hp1 hp2 k1 k2 k3
              cases p1 <;> cases p2
              all_goals
                go_wp2_with (first
                  | (go_at_call 42; refine (K1.out _).mono ?_; rintro e w' ⟨rfl, rfl⟩)
                  | (go_at_call 43; refine (K2.out _).mono ?_; rintro e w' ⟨rfl, rfl⟩))
              all_goals first
                | (go_ret
                   rename_i hq
                   have hx45 : ¬ x = 45 := by simpa using hq
                   have k := K3.out
                   rw [decide_eq_false hx45] at k
                   have : (strN s).any (fun c => decide (whatI c = 0)) = true := List.any_eq_true.2 ⟨x, List.mem_of_getElem? HX.out, k⟩
                   exact ⟨ret_b (by rw [this]; rfl), rfl⟩)
                | exact ⟨⟨i + 1, by omega, by go_num, Lib.hid (by rw [List.take_add_one, HX.out, List.any_append, HA.out]; simp only [Option.toList_some, List.any_cons, List.any_nil, K3.out]; simp_all), trivial⟩, by simp only [intOf]; omega⟩
            · have : i = n := by omega
              subst this
              go_wp2_with (fail)
              go_ret
              have := HA.out
              rw [List.take_of_length_le (by rw [HL.out]; omega)] at this
              exact ⟨ret_b (by rw [this]; rfl), rfl⟩
theorem cmpS_lt {a b : ByteArray} (h : a.size < b.size) : cmpS a b = -1 := by
  have : cmpI a.size b.size = -1 := by unfold cmpI; rw [if_pos (by omega)]
  unfold cmpS; rw [this]; rfl
theorem cmpS_gt {a b : ByteArray} (h : b.size < a.size) : cmpS a b = 1 := by
  have : cmpI a.size b.size = 1 := by unfold cmpI; rw [if_neg (by omega), if_pos (by omega)]
  unfold cmpS; rw [this]; rfl
theorem cmpS_sz {a b : ByteArray} (h : a.size = b.size) : cmpS a b = cmpL a b := by
  have : cmpI a.size b.size = 0 := by unfold cmpI; rw [if_neg (by omega), if_neg (by omega)]
  unfold cmpS; rw [this]; rfl
theorem cmpL_p {a b : ByteArray} (h : a.data.toList < b.data.toList) : cmpL a b = -1 := by unfold cmpL; rw [if_pos h]
theorem cmpL_m {a b : ByteArray} (h : b.data.toList < a.data.toList) : cmpL a b = 1 := by unfold cmpL; rw [if_neg (lists_asymm h), if_pos h]
set_option maxHeartbeats 2000000 in
set_option maxRecDepth 100000 in
theorem refcompare_calls (a b : ByteArray) (w : World) (ha : a.size ≤ 140737488351232) (hb : b.size ≤ 140737488351232) : Calls Try.prog 19 #[.string a, .string b] w fun e w' => e = .returned (.int .i64 (cmpS a b)) ∧ ∃ q, w' = w.drewN q := by
  have mixed : Try.prog.follows .mixedOrders = true := by kernel_rfl
  obtain ⟨r, hr⟩ : ∃ r, cmpS a b = r := ⟨_, rfl⟩
  rw [hr]
  have HR := Lib.hid hr
  clear hr
  rcases Nat.lt_trichotomy a.size b.size with h | h | h
  · go_enter Try.func19, Try.ntmps19
    go_wp2_with (fail)
    all_goals first
      | (exfalso; omega)
      | (go_ret; exact ⟨ret_i ((cmpS_lt h).symm.trans HR.out), 0, rfl⟩)
  · obtain ⟨n, hn⟩ : ∃ n, a.size = n := ⟨_, rfl⟩
    have hm : b.size = n := by omega
    have hbA := get_bt a
    have hbB := get_bt b
    have NA := Lib.hid (bt_nonneg a)
    have NB := Lib.hid (bt_nonneg b)
    have LA := Lib.hid (bt_le a)
    have LB := Lib.hid (bt_le b)
    clear h
    rw [cmpS_sz (by omega)] at HR
    go_enter Try.func19, Try.ntmps19
    go_wp2_with (fail)
    go_loopw [5] (fun v5 wr => ∃ i q : Nat, i ≤ n ∧ v5 = .int .i64 i ∧ Hid (∀ k, k < i → PlainAid.bt a k = PlainAid.bt b k) ∧ wr = w.drewN q) (fun v5 _ => n - (intOf v5).toNat)
    case atStart => exact ⟨0, 0, by omega, rfl, Lib.hid (fun k h => absurd h (by omega)), rfl⟩
    case round =>
      obtain ⟨i, q, hi, rfl, HA, rfl⟩ := hrel
      by_cases hlt : i < n
      · have h0 := NA.out i
        have h1 := LA.out i
        have h2 := NB.out i
        have h3 := LB.out i
        obtain ⟨x, hx⟩ : ∃ x, PlainAid.bt a i = x := ⟨_, rfl⟩
        obtain ⟨y, hy⟩ : ∃ y, PlainAid.bt b i = y := ⟨_, rfl⟩
        rw [hx] at h0 h1
        rw [hy] at h2 h3
        rcases Int.lt_trichotomy x y with hq | hq | hq
        · go_wp2_with (fail)
          go_region
          go_wp2_with (fail)
          go_ret
          exact ⟨ret_i (by rw [← HR.out]; exact (cmpL_p (lt_at i (by omega) (by omega) HA.out (by omega))).symm), _, rfl⟩
        · subst hq
          go_wp2_with (fail)
          go_region
          go_wp2_with (fail)
          go_region
          go_wp2_with (fail)
          exact ⟨⟨i + 1, q + 2, by omega, by go_num, Lib.hid (fun k hk => by
            rcases Nat.lt_or_eq_of_le (Nat.le_of_lt_succ hk) with g | rfl
            · exact HA.out k g
            · rw [hx, hy]), rfl⟩, by simp only [intOf]; omega⟩
        · go_wp2_with (fail)
          go_region
          go_wp2_with (fail)
          go_region
          go_wp2_with (fail)
          go_ret
          exact ⟨ret_i (by rw [← HR.out]; exact (cmpL_m (lt_at i (by omega) (by omega) (fun k hk => (HA.out k hk).symm) (by omega))).symm), _, rfl⟩
      · have : i = n := by omega
        subst this
        go_wp2_with (fail)
        go_ret
        have he : a = b := eq_all (by omega) (fun k hk => HA.out k (by omega))
        exact ⟨ret_i (by rw [← HR.out]; exact (cmpL_zero.2 he).symm), _, rfl⟩
  · go_enter Try.func19, Try.ntmps19
    go_wp2_with (fail)
    all_goals first
      | (exfalso; omega)
      | (go_ret; exact ⟨ret_i ((cmpS_gt h).symm.trans HR.out), 0, rfl⟩)
end Go.Proofs.Ytnlcpgeapgnkgaa.H
