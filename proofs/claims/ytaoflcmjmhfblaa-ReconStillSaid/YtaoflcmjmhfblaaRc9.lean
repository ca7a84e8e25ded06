/- ReconEach: the walk. -/
import Derived.Test.YtaoflcmjmhfblaaRc8
namespace Go.Proofs.Ytaoflcmjmhfblaa.C
open Go.RowKit Go.Proofs.YtaoflcmjmhfblaaW.PrintWords Go.Proofs.YtaoflcmjmhfblaaW.PrintLast Go.Proofs.YtaoflcmjmhfblaaW.PrintMore Go.Proofs.Ytaoflcmjmhfblaa.H
set_option linter.unusedVariables false
set_option linter.unusedSimpArgs false
theorem told_pair {T : List TolV} (h : MayT T) : ∀ i j, i < j → j < T.length → (T.getD i noTol).id < (T.getD j noTol).id := inc_of (f := fun i => (T.getD i noTol).id) (n := T.length) (fun i hi h0 => (h i hi).2.2 h0)
theorem told_ne {T : List TolV} (h : MayT T) : T.Pairwise (fun a b => a.id ≠ b.id) := by
  have hinc := told_pair h
  rw [List.pairwise_iff_getElem]
  intro i j hi hj hij
  have := hinc i j hij hj
  simp only [List.getD_eq_getElem?_getD, List.getElem?_eq_getElem hi, List.getElem?_eq_getElem hj, Option.getD_some] at this
  omega
theorem told_mem {T : List TolV} {t : TolV} (h : t ∈ T) : ∃ i, i < T.length ∧ T.getD i noTol = t := by
  obtain ⟨i, hi, rfl⟩ := List.getElem_of_mem h
  exact ⟨i, hi, by simp [List.getD_eq_getElem?_getD, hi]⟩
theorem told_one {T : List TolV} (h : MayT T) {i j : Nat} (hi : i < T.length) (hj : j < T.length) (e : (T.getD i noTol).id = (T.getD j noTol).id) : i = j := by
  rcases Nat.lt_trichotomy i j with q | q | q
  · have := told_pair h i j q hj; omega
  · exact q
  · have := told_pair h j i q hi; omega
/-- Where an Id is told. -/
def AtOk (T : List TolV) (id : Int) (k : Nat) (at_ : Int) : Prop := (at_ = -1 ∧ ∀ j, j < k → (T.getD j noTol).id ≠ id) ∨ (∃ m : Nat, at_ = m ∧ m < k ∧ (T.getD m noTol).id = id)
theorem at_cases {T : List TolV} {L : List InV} {ek et ei at_ : Int} {nT : Nat} (hM : MayT T) (hn : T.length = nT) (hA : AtOk T ei nT at_) (hF : FineE (fun i : InV => i.id) T L ⟨ek, et, ei⟩) :
    (ek = 10 ∧ (lookL_ L ei).isSome = false ∧ ∃ m : Nat, at_ = m ∧ m < nT ∧ (T.getD m noTol).token = et) ∨ (ek = 12 ∧ ∃ m : Nat, at_ = m ∧ m < nT ∧ (T.getD m noTol).state = 2) ∨
    (ek = 16 ∧ (lookL_ L ei).isSome = true ∧ ∃ m : Nat, at_ = m ∧ m < nT ∧ (T.getD m noTol).state = 3) ∨ (ek = 15 ∧ (lookL_ L ei).isSome = true ∧ at_ = -1) := by
  subst hn
  have find : ∀ t ∈ T, t.id = ei → ∃ m : Nat, at_ = m ∧ m < T.length ∧ T.getD m noTol = t := fun t ht he => by
    obtain ⟨j, hj, hjt⟩ := told_mem ht
    rcases hA with ⟨_, h2⟩ | ⟨m, h1, h2, h3⟩
    · exact absurd (by rw [hjt]; exact he) (h2 j hj)
    · have : m = j := told_one hM h2 hj (by rw [h3, hjt]; exact he.symm)
      exact ⟨m, h1, h2, by rw [this]; exact hjt⟩
  rcases hF with ⟨h1, h2, t, ht, he, hk⟩ | ⟨h1, t, ht, he, hk⟩ | ⟨h1, h2, t, ht, he, hk⟩ | ⟨h1, h2, h3⟩
  · obtain ⟨m, a, b, c⟩ := find t ht he
    exact .inl ⟨h1, by unfold lookL_; rw [h2]; rfl, m, a, b, by rw [c]; exact hk⟩
  · obtain ⟨m, a, b, c⟩ := find t ht he
    exact .inr (.inl ⟨h1, m, a, b, by rw [c]; exact hk⟩)
  · obtain ⟨m, a, b, c⟩ := find t ht he
    exact .inr (.inr (.inl ⟨h1, h2, m, a, b, by rw [c]; exact hk⟩))
  · refine .inr (.inr (.inr ⟨h1, h2, ?_⟩))
    rcases hA with ⟨h4, _⟩ | ⟨m, _, h5, h6⟩
    · exact h4
    · have := toldIn_iff.2 ⟨T.getD m noTol, by rw [List.getD_eq_getElem?_getD, List.getElem?_eq_getElem h5]; exact List.getElem_mem _, h6⟩
      rw [show toldIn T ei = false from h3] at this
      cases this
theorem all_fineT {T : List TolV} {L : List InV} {i : Nat} (h : i < (allT T L).length) : FineE (fun i : InV => i.id) T L ((allT T L).getD i zEv) := all_fine (ist := fun i : InV => i.state) _ (getD_mem_ h)
theorem all_onceT {T : List TolV} {L : List InV} (hT : MayT T) (hL : MayL L) : OnceE (allT T L) := all_once (iid := fun i : InV => i.id) (ist := fun i : InV => i.state) (told_ne hT) (pair_ids hL)
set_option maxHeartbeats 16000000 in
set_option maxRecDepth 100000 in
theorem reconEach_calls {AT AL : Option Addr} (cT cL : Nat) {nT nL : Nat} {T : List TolV} {L : List InV} (w : World) (hT : kTol.C w AT nT T) (hL : kInst.C w AL nL L) (hwf : wfT T) :
    Calls Try.prog 3 #[.slice AT nT cT, .slice AL nL cL] w fun e w' => e = .returned (.bool true) ∧ Below w.heap.size w w' := by
  have hm := Kd.C_max hL
  have hm2 := Kd.C_max hT
  have HL := Lib.hid hL
  have HT := Lib.hid hT
  have HW := Lib.hid hwf
  have HB0 := Lib.hid (Below.refl w.heap.size w)
  clear hT hL hwf
  by_cases hbig : 300 < nT ∨ 300 < nL
  · go_enter Try.func3, Try.ntmps3
    by_cases h1 : 300 < nT
    · have l1 : ((nT : Int) > 300) := by omega
      clear hbig
      go_wp2_with (go_at_call 15; refine (lives_calls _).mono ?_; rintro e w9 ⟨rfl, hb⟩; have HB9 := Lib.hid (below_step HB0.out hb); clear hb)
      go_ret
      exact ⟨rfl, HB9.out⟩
    · have l1 : ¬ ((nT : Int) > 300) := by omega
      have l2 : ((nL : Int) > 300) := by omega
      clear hbig
      go_wp2_with (go_at_call 15; refine (lives_calls _).mono ?_; rintro e w9 ⟨rfl, hb⟩; have HB9 := Lib.hid (below_step HB0.out hb); clear hb)
      go_ret
      exact ⟨rfl, HB9.out⟩
  have l1 : ¬ ((nT : Int) > 300) := by omega
  have l2 : ¬ ((nL : Int) > 300) := by omega
  have hT3 : nT ≤ 300 := by omega
  clear hbig
  have KE := Lib.hid (events_calls cT cL w HT.out HL.out HW.out (by omega))
  have KT := Lib.hid (show ∀ W, Below w.heap.size w W → _ from fun W hW => reconMay_calls AT cT nT T W (Kd.C_below HT.out hW) HW.out)
  have KS := Lib.hid (show ∀ W, Below w.heap.size w W → _ from fun W hW => rsumsMay_calls AL cL nL L W (Kd.C_below HL.out hW))
  go_enter Try.func3, Try.ntmps3
  by_cases hMT : MayT T
  case neg =>
    have hno : ¬ (MayT T ∧ MayL L) := fun h => hMT h.1
    go_wp2_with (first
      | (go_at_call 15; refine (lives_calls _).mono ?_; rintro e w9 ⟨rfl, hb⟩; have HB9 := Lib.hid (below_step HB2.out hb); clear hb)
      | (go_at_call 17; refine (KT.out _ HB1.out).mono ?_; rintro e w2 ⟨⟨b1, rfl, hb1⟩, hb⟩; obtain rfl : b1 = false := (by cases b1 with | false => rfl | true => exact absurd (hb1.1 rfl) hMT); have HB2 := Lib.hid (below_step HB1.out hb); have hw12 := hb; clear hb hb1)
      | (go_at_call 16; refine KE.out.mono ?_; rintro e w1 ⟨v, code, rfl, hE, hb⟩; obtain ⟨rfl, rfl⟩ := hE.2 hno; have HB1 := Lib.hid hb; clear hb hE))
    go_ret
    exact ⟨rfl, HB9.out⟩
  by_cases hML : MayL L
  case neg =>
    have hno : ¬ (MayT T ∧ MayL L) := fun h => hML h.2
    go_wp2_with (first
      | (go_at_call 15; refine (lives_calls _).mono ?_; rintro e w9 ⟨rfl, hb⟩; have HB9 := Lib.hid (below_step HB3.out hb); clear hb)
      | (go_at_call 18; refine (KS.out _ HB2.out).mono ?_; rintro e w3 ⟨⟨b2, rfl, hb2⟩, hb⟩; obtain rfl : b2 = false := (by cases b2 with | false => rfl | true => exact absurd (hb2.1 rfl) hML); have HB3 := Lib.hid (below_step HB2.out hb); have hw23 := hb; clear hb hb2)
      | (go_at_call 17; refine (KT.out _ HB1.out).mono ?_; rintro e w2 ⟨⟨b1, rfl, hb1⟩, hb⟩; obtain rfl : b1 = true := hb1.2 hMT; have HB2 := Lib.hid (below_step HB1.out hb); have hw12 := hb; clear hb hb1)
      | (go_at_call 16; refine KE.out.mono ?_; rintro e w1 ⟨v, code, rfl, hE, hb⟩; obtain ⟨rfl, rfl⟩ := hE.2 hno; have HB1 := Lib.hid hb; clear hb hE))
    go_ret
    exact ⟨rfl, HB9.out⟩
  have HMT := Lib.hid hMT
  have HML := Lib.hid hML
  have HON := Lib.hid (all_onceT hMT hML)
  have HFI := Lib.hid (show ∀ i, i < (allT T L).length → FineE (fun i : InV => i.id) T L ((allT T L).getD i zEv) from fun i hi => all_fineT hi)
  obtain ⟨X, hX⟩ : ∃ X, allT T L = X := ⟨_, rfl⟩
  rw [hX] at HON HFI
  have HX := Lib.hid hX
  obtain ⟨na, hna⟩ : ∃ n, X.length = n := ⟨_, rfl⟩
  have HNA := Lib.hid hna
  clear hX hna
  go_upto_region 6 with (first
    | (go_at_call 18; refine (KS.out _ HB2.out).mono ?_; rintro e w3 ⟨⟨b2, rfl, hb2⟩, hb⟩; obtain rfl : b2 = true := hb2.2 hML; have HB3 := Lib.hid (below_step HB2.out hb); have hw23 := hb; clear hb hb2)
    | (go_at_call 17; refine (KT.out _ HB1.out).mono ?_; rintro e w2 ⟨⟨b1, rfl, hb1⟩, hb⟩; obtain rfl : b1 = true := hb1.2 hMT; have HB2 := Lib.hid (below_step HB1.out hb); have hw12 := hb; clear hb hb1)
    | (go_at_call 16; refine KE.out.mono ?_; rintro e w1 ⟨v, code, rfl, hE, hb⟩; obtain ⟨rfl, hR⟩ := hE.1 ⟨hMT, hML⟩; rw [HX.out] at hR; obtain ⟨A, c, hv, _, hC⟩ := Kd.R_reads hR; rw [HNA.out] at hv hC; subst hv; have HC1 := Lib.hid hC; clear hR hC; have HB1 := Lib.hid hb; clear hb hE))
  clear KE KT KS
  have HC3 := Lib.hid (Kd.C_below (Kd.C_below HC1.out hw12) hw23)
  have hmx := Kd.C_max HC3.out
  clear HC1 hw12 hw23
  go_wp2_with fail
  go_loopw [7] (fun v7 wr => ∃ i : Nat, i ≤ na ∧ v7 = .int .i64 i ∧ Hid (Below w3.heap.size w3 wr)) (fun v7 _ => na - (intOf v7).toNat)
  case atStart => exact ⟨0, Nat.zero_le _, rfl, Lib.hid (Below.refl _ _)⟩
  case round =>
    obtain ⟨i, hi, rfl, HR⟩ := hrel
    by_cases hlt : i < na
    · obtain ⟨al, ea, hc⟩ := ev_at (Kd.C_below HC3.out HR.out) i hlt
      subst ea
      have hfi := HFI.out i (by rw [HNA.out]; exact hlt)
      obtain ⟨x, hx⟩ : ∃ x, X.getD i zEv = x := ⟨_, rfl⟩
      rw [hx] at hc hfi
      have HXI := Lib.hid hx
      obtain ⟨ek, et, ei⟩ := x
      have c0 := hc 0 _ rfl
      have c1 := hc 1 _ rfl
      have c2 := hc 2 _ rfl
      rw [add_zero'] at c0
      rw [add_fC _ _ _ (by omega)] at c1 c2
      have C0 := Lib.hid c0
      have C1 := Lib.hid c1
      have C2 := Lib.hid c2
      have HFE := Lib.hid hfi
      clear hc hx hfi
      have l3 : (i : Int) < (na : Int) := by omega
      have l0 : (0 : Int) ≤ (i : Int) := by omega
      have KF := Lib.hid (find_calls cL ei wr (Kd.C_below HL.out (below_step HB3.out HR.out)) HML.out)
      have KFW := Lib.hid (show wr = wr from rfl)
      clear c0 c1
      go_upto_region 10 with (first
        | ((with_reducible refine gate_storeT 34 rfl ?_); refine bx_row rfl 34 (.tmp 8) (.tmp 61) rfl w4.heap.size rfl y.cells rfl 34 noInst.cells (heap_alloc_new _ _) (by kernel_rfl) (by rfl) (by simp [InV.cells, Value.oneCell']) (below_alloc (Below.refl w4.heap.size w4) _) (Nat.le_refl _) ?_; intro w5 hx2 hsz hoth hbb; have HB5 := Lib.hid (below_step HB4.out hbb); clear hx2 hsz hoth hbb)
        | (go_at_call 19; refine KF.out.mono ?_; rintro e w4 ⟨y, rfl, hb⟩; have HB4 := Lib.hid hb; clear hb))
      clear KF c2
      have HR5 := Lib.hid (below_step HR.out HB5.out)
      have c2 := (HB5.out.cell (World.block_lt_of_cell? _ _ C2.out)).trans C2.out
      go_wp2_with fail
      go_loopw [10, 11] (fun v10 v11 wq => ∃ (k q : Nat) (at_ : Int), k ≤ nT ∧ v11 = .int .i64 k ∧ v10 = .int .i64 at_ ∧ wq = w5.drewN q ∧ Hid (AtOk T ei k at_)) (fun _ v11 _ => nT - (intOf v11).toNat)
      case atStart => exact ⟨0, 0, -1, Nat.zero_le _, rfl, rfl, rfl, Lib.hid (.inl ⟨rfl, fun j h => absurd h (Nat.not_lt_zero _)⟩)⟩
      case round =>
        obtain ⟨k, q, at_, hk, rfl, rfl, rfl, HAT⟩ := hrel
        by_cases hlk : k < nT
        · obtain ⟨bl, eb, hct⟩ := tol_at (Kd.C_below HT.out (below_step HB3.out HR5.out)) k hlk
          subst eb
          have d00 := hct 0 _ rfl
          rw [add_zero'] at d00
          obtain ⟨y2, hy2⟩ : ∃ z, (T.getD k noTol).id = z := ⟨_, rfl⟩
          have HY2 := Lib.hid hy2
          have d0 : w5.cell? (bl.add (k * 3)) = some (.int .u64 y2) := by rw [← hy2]; exact d00
          clear hct d00 hy2
          have l4 : (k : Int) < (nT : Int) := by omega
          have l5 : (0 : Int) ≤ (k : Int) := by omega
          by_cases hye : y2 = ei
          · have hyb : (y2 == ei) = true := by simp [hye]
            have HYE := Lib.hid hye
            clear hye
            go_wp2_with fail
            go_quiet (fail)
            go_wp2_with fail
            all_goals first | (exfalso; omega) | exact ⟨⟨k + 1, _, _, by omega, by go_num, rfl, (by first | rfl | (rw [World.drewN_drewN])), Lib.hid (.inr ⟨k, rfl, by omega, by rw [HY2.out]; exact HYE.out⟩)⟩, by simp only [intOf]; omega⟩
          · have hyb : (y2 == ei) = false := by simp [hye]
            have HYE := Lib.hid hye
            clear hye
            go_wp2_with fail
            go_quiet (fail)
            go_wp2_with fail
            all_goals first | (exfalso; omega) | exact ⟨⟨k + 1, _, _, by omega, by go_num, rfl, (by first | rfl | (rw [World.drewN_drewN])), Lib.hid (by
              rcases HAT.out with ⟨h1, h2⟩ | ⟨m, h1, h2, h3⟩
              · refine .inl ⟨h1, fun j hj => ?_⟩
                by_cases e : j = k
                · subst e; rw [HY2.out]; exact HYE.out
                · exact h2 j (by omega)
              · exact .inr ⟨m, h1, by omega, h3⟩)⟩, by simp only [intOf]; omega⟩
        · have l4 : ¬ (k : Int) < (nT : Int) := by omega
          have HKE := Lib.hid (show k = nT by omega)
          have hac := at_cases HMT.out HT.out.1 (by have h := HAT.out; rw [HKE.out] at h; exact h) HFE.out
          have HAC := Lib.hid hac
          clear hac HAT
          go_upto_region 17 with fail
          refine gen_w (fun V => Below w5.heap.size w5 V) (by first | exact pw_below_drewN (Below.refl _ _) _ | exact pw_below_drewN (pw_below_drewN (Below.refl _ _) _) _) ?_
          intro w6 hb6
          have HB6 := Lib.hid (below_step HB5.out hb6)
          have HR6 := Lib.hid (below_step HR5.out hb6)
          clear hb6 c2 l4
          have c0 := (HB6.out.cell (World.block_lt_of_cell? _ _ C0.out)).trans C0.out
          have c1 := (HB6.out.cell (World.block_lt_of_cell? _ _ C1.out)).trans C1.out
          have c2 := (HB6.out.cell (World.block_lt_of_cell? _ _ C2.out)).trans C2.out
          rcases HAC.out with ⟨hk10, hkn, m, hat, hml, hto⟩ | ⟨hk12, m, hat, hml, hto⟩ | ⟨hk16, hkn, m, hat, hml, hto⟩ | ⟨hk15, hkn, hat⟩
          · subst hk10
            rw [hkn]
            subst hat
            clear hkn
            obtain ⟨bm, eb, hct⟩ := tol_at (Kd.C_below HT.out (below_step HB3.out HR6.out)) m hml
            subst eb
            have d00 := hct 1 _ rfl
            rw [add_fC _ _ _ (by omega)] at d00
            have d0 : w6.cell? ⟨(bm.add (m * 3)).block, (bm.add (m * 3)).off + 1, none⟩ = some (.int .u64 et) := by rw [← hto]; exact d00
            clear hct d00 hto
            have m1 : (m : Int) < (nT : Int) := by omega
            have m0 : (0 : Int) ≤ (m : Int) := by omega
            have m2 : (m : Int) ≥ 0 := by omega
            go_wp2_with fail
            go_quiet (fail)
            go_wp2_with fail
            clear d0 c0 c1
            go_loopw [13] (fun v13 wq => ∃ k2 q2 : Nat, k2 ≤ i ∧ v13 = .int .i64 k2 ∧ wq = w6.drewN q2) (fun v13 _ => i - (intOf v13).toNat)
            case atStart => first | exact ⟨0, 0, Nat.zero_le _, rfl, rfl⟩ | exact ⟨0, _, Nat.zero_le _, rfl, rfl⟩
            case round =>
              obtain ⟨k2, q2, hk2, rfl, rfl⟩ := hrel
              by_cases hki : k2 < i
              · obtain ⟨al2, ea2, hc2⟩ := ev_at (Kd.C_below HC3.out HR6.out) k2 (by omega)
                obtain rfl := Option.some.inj ea2
                have hon := HON.out k2 i hki (by rw [HNA.out]; exact hlt)
                rw [HXI.out] at hon
                obtain ⟨z, hz⟩ : ∃ z, X.getD k2 zEv = z := ⟨_, rfl⟩
                rw [hz] at hc2 hon
                clear hz ea2
                obtain ⟨zk, zt, zi⟩ := z
                have z0 := hc2 0 _ rfl
                have z2 := hc2 2 _ rfl
                rw [add_zero'] at z0
                rw [add_fC _ _ _ (by omega)] at z2
                clear hc2
                have l6 : (k2 : Int) < (na : Int) := by omega
                have l7 : (0 : Int) ≤ (k2 : Int) := by omega
                have l8 : (k2 : Int) < (i : Int) := by omega
                by_cases hze : zi = ei
                · obtain ⟨o1, o2, o3⟩ := hon hze
                  exact absurd (show (10 : Int) = 12 from o2) (by decide)
                · have hzb : (zi == ei) = false := by simp [hze]
                  clear hon hze
                  go_wp2_with fail
                  go_quiet (fail)
                  go_wp2_with fail
                  all_goals first | (exfalso; omega) | exact ⟨⟨k2 + 1, _, by omega, by go_num, (by first | rfl | (rw [World.drewN_drewN]))⟩, by simp only [intOf]; omega⟩
              · have l8 : ¬ (k2 : Int) < (i : Int) := by omega
                go_wp2_with fail
                all_goals first | (exfalso; omega) | exact ⟨⟨i + 1, by omega, by go_num, Lib.hid (below_step HR6.out (pw_below_drewN (Below.refl _ _) _))⟩, by simp only [intOf]; omega⟩
          · subst hk12
            subst hat
            obtain ⟨bm, eb, hct⟩ := tol_at (Kd.C_below HT.out (below_step HB3.out HR6.out)) m hml
            subst eb
            have d00 := hct 2 _ rfl
            rw [add_fC _ _ _ (by omega)] at d00
            have d0 : w6.cell? ⟨(bm.add (m * 3)).block, (bm.add (m * 3)).off + 2, none⟩ = some (.int .u8 2) := by rw [← hto]; exact d00
            clear hct d00 hto
            have m1 : (m : Int) < (nT : Int) := by omega
            have m0 : (0 : Int) ≤ (m : Int) := by omega
            have m2 : (m : Int) ≥ 0 := by omega
            go_wp2_with fail
            clear d0 c1
            go_loopw [13] (fun v13 wq => ∃ k2 q2 : Nat, k2 ≤ i ∧ v13 = .int .i64 k2 ∧ wq = w6.drewN q2) (fun v13 _ => i - (intOf v13).toNat)
            case atStart => first | exact ⟨0, 0, Nat.zero_le _, rfl, rfl⟩ | exact ⟨0, _, Nat.zero_le _, rfl, rfl⟩
            case round =>
              obtain ⟨k2, q2, hk2, rfl, rfl⟩ := hrel
              by_cases hki : k2 < i
              · obtain ⟨al2, ea2, hc2⟩ := ev_at (Kd.C_below HC3.out HR6.out) k2 (by omega)
                obtain rfl := Option.some.inj ea2
                have hon := HON.out k2 i hki (by rw [HNA.out]; exact hlt)
                rw [HXI.out] at hon
                obtain ⟨z, hz⟩ : ∃ z, X.getD k2 zEv = z := ⟨_, rfl⟩
                rw [hz] at hc2 hon
                clear hz ea2
                obtain ⟨zk, zt, zi⟩ := z
                have z0 := hc2 0 _ rfl
                have z2 := hc2 2 _ rfl
                rw [add_zero'] at z0
                rw [add_fC _ _ _ (by omega)] at z2
                clear hc2
                have l6 : (k2 : Int) < (na : Int) := by omega
                have l7 : (0 : Int) ≤ (k2 : Int) := by omega
                have l8 : (k2 : Int) < (i : Int) := by omega
                by_cases hze : zi = ei
                · obtain ⟨o1, o2, o3⟩ := hon hze
                  have o1 : zk = 10 := o1
                  subst o1
                  have hzb : (zi == ei) = true := by simp [hze]
                  have hki2 : ((k2 : Int) != (i : Int) - 1) = false := by simp; omega
                  clear o2 o3 hon hze
                  go_wp2_with fail
                  go_quiet (fail)
                  go_wp2_with fail
                  all_goals first | (exfalso; omega) | exact ⟨⟨k2 + 1, _, by omega, by go_num, (by first | rfl | (rw [World.drewN_drewN]))⟩, by simp only [intOf]; omega⟩
                · have hzb : (zi == ei) = false := by simp [hze]
                  clear hon hze
                  go_wp2_with fail
                  go_quiet (fail)
                  go_wp2_with fail
                  all_goals first | (exfalso; omega) | exact ⟨⟨k2 + 1, _, by omega, by go_num, (by first | rfl | (rw [World.drewN_drewN]))⟩, by simp only [intOf]; omega⟩
              · have l8 : ¬ (k2 : Int) < (i : Int) := by omega
                go_wp2_with fail
                all_goals first | (exfalso; omega) | exact ⟨⟨i + 1, by omega, by go_num, Lib.hid (below_step HR6.out (pw_below_drewN (Below.refl _ _) _))⟩, by simp only [intOf]; omega⟩
          · subst hk16
            rw [hkn]
            subst hat
            clear hkn
            obtain ⟨bm, eb, hct⟩ := tol_at (Kd.C_below HT.out (below_step HB3.out HR6.out)) m hml
            subst eb
            have d00 := hct 2 _ rfl
            rw [add_fC _ _ _ (by omega)] at d00
            have d0 : w6.cell? ⟨(bm.add (m * 3)).block, (bm.add (m * 3)).off + 2, none⟩ = some (.int .u8 3) := by rw [← hto]; exact d00
            clear hct d00 hto
            have m1 : (m : Int) < (nT : Int) := by omega
            have m0 : (0 : Int) ≤ (m : Int) := by omega
            have m2 : (m : Int) ≥ 0 := by omega
            go_wp2_with fail
            clear d0 c0 c1
            go_loopw [13] (fun v13 wq => ∃ k2 q2 : Nat, k2 ≤ i ∧ v13 = .int .i64 k2 ∧ wq = w6.drewN q2) (fun v13 _ => i - (intOf v13).toNat)
            case atStart => first | exact ⟨0, 0, Nat.zero_le _, rfl, rfl⟩ | exact ⟨0, _, Nat.zero_le _, rfl, rfl⟩
            case round =>
              obtain ⟨k2, q2, hk2, rfl, rfl⟩ := hrel
              by_cases hki : k2 < i
              · obtain ⟨al2, ea2, hc2⟩ := ev_at (Kd.C_below HC3.out HR6.out) k2 (by omega)
                obtain rfl := Option.some.inj ea2
                have hon := HON.out k2 i hki (by rw [HNA.out]; exact hlt)
                rw [HXI.out] at hon
                obtain ⟨z, hz⟩ : ∃ z, X.getD k2 zEv = z := ⟨_, rfl⟩
                rw [hz] at hc2 hon
                clear hz ea2
                obtain ⟨zk, zt, zi⟩ := z
                have z0 := hc2 0 _ rfl
                have z2 := hc2 2 _ rfl
                rw [add_zero'] at z0
                rw [add_fC _ _ _ (by omega)] at z2
                clear hc2
                have l6 : (k2 : Int) < (na : Int) := by omega
                have l7 : (0 : Int) ≤ (k2 : Int) := by omega
                have l8 : (k2 : Int) < (i : Int) := by omega
                by_cases hze : zi = ei
                · obtain ⟨o1, o2, o3⟩ := hon hze
                  exact absurd (show (16 : Int) = 12 from o2) (by decide)
                · have hzb : (zi == ei) = false := by simp [hze]
                  clear hon hze
                  go_wp2_with fail
                  go_quiet (fail)
                  go_wp2_with fail
                  all_goals first | (exfalso; omega) | exact ⟨⟨k2 + 1, _, by omega, by go_num, (by first | rfl | (rw [World.drewN_drewN]))⟩, by simp only [intOf]; omega⟩
              · have l8 : ¬ (k2 : Int) < (i : Int) := by omega
                go_wp2_with fail
                all_goals first | (exfalso; omega) | exact ⟨⟨i + 1, by omega, by go_num, Lib.hid (below_step HR6.out (pw_below_drewN (Below.refl _ _) _))⟩, by simp only [intOf]; omega⟩
          · subst hk15
            rw [hkn]
            subst hat
            clear hkn
            go_wp2_with fail
            clear c0 c1
            go_loopw [13] (fun v13 wq => ∃ k2 q2 : Nat, k2 ≤ i ∧ v13 = .int .i64 k2 ∧ wq = w6.drewN q2) (fun v13 _ => i - (intOf v13).toNat)
            case atStart => first | exact ⟨0, 0, Nat.zero_le _, rfl, rfl⟩ | exact ⟨0, _, Nat.zero_le _, rfl, rfl⟩
            case round =>
              obtain ⟨k2, q2, hk2, rfl, rfl⟩ := hrel
              by_cases hki : k2 < i
              · obtain ⟨al2, ea2, hc2⟩ := ev_at (Kd.C_below HC3.out HR6.out) k2 (by omega)
                obtain rfl := Option.some.inj ea2
                have hon := HON.out k2 i hki (by rw [HNA.out]; exact hlt)
                rw [HXI.out] at hon
                obtain ⟨z, hz⟩ : ∃ z, X.getD k2 zEv = z := ⟨_, rfl⟩
                rw [hz] at hc2 hon
                clear hz ea2
                obtain ⟨zk, zt, zi⟩ := z
                have z0 := hc2 0 _ rfl
                have z2 := hc2 2 _ rfl
                rw [add_zero'] at z0
                rw [add_fC _ _ _ (by omega)] at z2
                clear hc2
                have l6 : (k2 : Int) < (na : Int) := by omega
                have l7 : (0 : Int) ≤ (k2 : Int) := by omega
                have l8 : (k2 : Int) < (i : Int) := by omega
                by_cases hze : zi = ei
                · obtain ⟨o1, o2, o3⟩ := hon hze
                  exact absurd (show (15 : Int) = 12 from o2) (by decide)
                · have hzb : (zi == ei) = false := by simp [hze]
                  clear hon hze
                  go_wp2_with fail
                  go_quiet (fail)
                  go_wp2_with fail
                  all_goals first | (exfalso; omega) | exact ⟨⟨k2 + 1, _, by omega, by go_num, (by first | rfl | (rw [World.drewN_drewN]))⟩, by simp only [intOf]; omega⟩
              · have l8 : ¬ (k2 : Int) < (i : Int) := by omega
                go_wp2_with fail
                all_goals first | (exfalso; omega) | exact ⟨⟨i + 1, by omega, by go_num, Lib.hid (below_step HR6.out (pw_below_drewN (Below.refl _ _) _))⟩, by simp only [intOf]; omega⟩
    · have l3 : ¬ (i : Int) < (na : Int) := by omega
      have HRW := Lib.hid (below_step HB3.out HR.out)
      go_wp2_with (go_at_call 15; refine (lives_calls _).mono ?_; rintro e w9 ⟨rfl, hb⟩; have HB9 := Lib.hid (below_step HRW.out hb); clear hb)
      go_ret
      exact ⟨rfl, HB9.out⟩
end Go.Proofs.Ytaoflcmjmhfblaa.C
