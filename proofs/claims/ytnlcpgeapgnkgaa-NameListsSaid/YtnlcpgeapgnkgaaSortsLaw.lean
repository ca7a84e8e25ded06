/- The walk of NameSorts. -/
import Derived.Test.YtnlcpgeapgnkgaaSortC
import Derived.Test.YtnlcpgeapgnkgaaRow
namespace Go.Proofs.Ytnlcpgeapgnkgaa.H
open Go.RowKit Go.Proofs.YtnlcpgeapgnkgaaW.PrintWords Go.Proofs.YtnlcpgeapgnkgaaW.PrintLast Go.Proofs.YtnlcpgeapgnkgaaW.PrintMore
set_option linter.unusedVariables false
set_option linter.unusedSimpArgs false
theorem opens_strs : Opens Try.prog 48 (Kd.slice 9 Kd.string) (fun l => l.length ≤ 9223372036854775807 ∧ l.length * 16 ≤ 140737488351232 ∧ ∀ x ∈ l, x.size ≤ 140737488351232) :=
  Opens.slice Try.underlying48 (by kernel_rfl) (Opens.string Try.underlying9 (by kernel_rfl)) (by kernel_rfl)
theorem SortP.nodup {l : List ByteArray} {D : List Nat} (h : SortP l D) : D.Nodup := (h.1.nodup_iff).2 List.nodup_range
theorem SortP.new {l : List ByteArray} {D : List Nat} (h : SortP l D) {i : Nat} (hi : i < D.length) : D.getD i 0 ∉ D.take i := by
  intro hm
  have hn := h.nodup
  have e : D.getD i 0 = D[i] := by rw [List.getD_eq_getElem?_getD, List.getElem?_eq_getElem hi]; rfl
  rw [e] at hm
  obtain ⟨j, hj, e2⟩ := List.mem_iff_getElem.1 hm
  rw [List.length_take] at hj
  rw [List.getElem_take] at e2
  exact (List.pairwise_iff_getElem.1 hn j i (by omega) hi (by omega)) e2
theorem take_mem {D : List Nat} {i : Nat} (hi : i < D.length) (k : Nat) : k ∈ D.take (i + 1) ↔ k ∈ D.take i ∨ k = D.getD i 0 := by
  rw [List.take_add_one, List.mem_append, List.getElem?_eq_getElem hi, List.getD_eq_getElem?_getD, List.getElem?_eq_getElem hi]
  simp
theorem txt_rd (l : List ByteArray) (D : List Nat) (i : Nat) (h : i < D.length) : rdOf ByteArray.empty (txt l D) (i : Int) = l.getD (D.getD i 0) ByteArray.empty := by
  unfold rdOf txt
  rw [Int.toNat_natCast]
  simp [List.getD_eq_getElem?_getD, h]
theorem info_bool : (Try.prog.info? 4).map (fun i => (i.zero, i.size, i.bytes)) = some (some (.bool false), 1, 1) := by kernel_rfl
theorem made_cell (W : World) (N t k : Nat) (h : k < N) : (W.alloc (.cells (madeCells #[.bool false] N) t)).cell? ⟨W.heap.size, k, none⟩ = some (.bool false) ∧ (W.alloc (.cells (madeCells #[.bool false] N) t)).frozen? ⟨W.heap.size, k, none⟩ = false := by
  have e : (madeCells #[Value.bool false] N)[k]? = some (.bool false) := by
    rw [← Array.getElem?_toList, toList_madeCells_one, List.getElem?_replicate, if_pos h]
  constructor
  · simp [e]
  · simp
theorem bgrow (w : World) (n : Nat) (os : Array Obj) : Below w.heap.size w (Go.Sort.grow (w.drewN n) os) := Go.Lib.below_grow w.heap.size w (Nat.le_refl _) n os
set_option maxHeartbeats 4000000 in
set_option maxRecDepth 100000 in
theorem nameSorts_walk {A : Option Addr} {c : Nat} {l : List ByteArray} (w : World) (hC : Kd.C Kd.string w A l.length l) (hl : l.length ≤ c) (hw : l.length ≤ 9223372036854775807 ∧ l.length * 16 ≤ 140737488351232 ∧ ∀ x ∈ l, x.size ≤ 140737488351232) :
    Calls Try.prog 8 #[.slice A l.length c] w fun e w' => e = .returned (.bool true) ∧ Below w.heap.size w w' := by
  have K := Lib.hid (sort_calls l A c l.length w hC hw.2.1)
  have HC := Lib.hid hC
  obtain ⟨N, hN⟩ : ∃ N, l.length = N := ⟨_, rfl⟩
  have HN := Lib.hid hN
  obtain ⟨hw1, hw2, _⟩ := hw
  rw [hN] at K HC hw1 hw2 hl ⊢
  clear hC hN
  have mixed : Try.prog.follows .mixedOrders = true := by kernel_rfl
  have hmk := print_make_of (P := Try.prog) 58 4 (.bool false) 1 Try.underlying58 info_bool rfl (by decide) N (by omega)
  go_enter Try.func8, Try.ntmps8
  go_wp2_with (first | (go_at_call 21; refine K.out.mono ?_; rintro e w2 ⟨A1, c1, A2, c2, D, rfl, hP, hc1, hc2, hr, hi, hb⟩; have HP := Lib.hid hP; have HR := Lib.hid hr; have HI := Lib.hid hi; have HB := Lib.hid hb; clear hP hr hi hb))
  obtain ⟨w3, hw3⟩ : ∃ w3, w3 = w2.alloc (.cells (madeCells #[.bool false] N) 4) := ⟨_, rfl⟩
  have hB3 : Below w2.heap.size w2 w3 := by rw [hw3]; exact (Below.refl _ _).alloc (Nat.le_refl _) _
  have hM3 : ∀ k, k < N → w3.cell? ⟨w2.heap.size, k, none⟩ = some (.bool false) ∧ w3.frozen? ⟨w2.heap.size, k, none⟩ = false := fun k hk => by rw [hw3]; exact made_cell w2 N _ k hk
  have hs3 : w2.heap.size < w3.heap.size := by rw [hw3]; simp
  rw [← hw3]
  obtain ⟨g, hg⟩ : ∃ g, w2.heap.size = g := ⟨_, rfl⟩
  rw [hg] at hM3 hs3 ⊢
  have HG := Lib.hid hg
  have HB3 := Lib.hid hB3
  have HM3 := Lib.hid hM3
  clear hw3 hB3 hM3 hmk hg
  go_loopw [6] (fun v6 wr => ∃ i : Nat, i ≤ N ∧ v6 = .int .i64 i ∧ g < wr.heap.size ∧ Hid (Below w2.heap.size w2 wr) ∧ Hid (∀ k, k < N → wr.cell? ⟨g, k, none⟩ = some (.bool (decide (k ∈ D.take i))) ∧ wr.frozen? ⟨g, k, none⟩ = false)) (fun v6 _ => N - (intOf v6).toNat)
  case atStart => exact ⟨0, by omega, rfl, hs3, HB3, Lib.hid (fun k hk => by have := HM3.out k hk; simpa using this)⟩
  case round =>
    obtain ⟨i, hi, rfl, hgs, HW, HM⟩ := hrel
    by_cases hlt : i < N
    · have hDl : D.length = N := by rw [HP.out.len]; exact HN.out
      have hkl := HP.out.lt (i := i) (by omega)
      rw [HN.out] at hkl
      obtain ⟨e1, _, e3⟩ := Kd.R_reads' HR.out
      rw [← e1] at e3
      obtain ⟨pd, ep, _⟩ := Kd.at_int HI.out (i : Int) (by omega) (by omega)
      obtain ⟨ad, ea, _⟩ := Kd.at_string e3 (i : Int) (by omega) (by omega)
      obtain ⟨ld, el, _⟩ := Kd.at_string HC.out (i : Int) (by omega) (by omega)
      subst ep ea el
      have CI := Lib.hid HI.out
      have CA := Lib.hid e3
      have CS := Lib.hid (Kd.C_below HC.out HB.out)
      clear e1 e3
      have mi := Kd.foot_int (Kd.C_below CI.out HW.out) (i : Int) (by omega) (by omega)
      have ma := Kd.foot_string (Kd.C_below CA.out HW.out) (i : Int) (by omega) (by omega)
      have ml := Kd.foot_string (Kd.C_below CS.out HW.out) (D.getD i 0 : Int) (by omega) (by omega)
      rw [Int.toNat_natCast] at mi ma ml
      have mi : wr.cell? (pd.add i) = some (.int .i64 (rdOf 0 (plc D) (i : Int))) := mi
      rw [plc_rd D i (by omega)] at mi
      rw [txt_rd l D i (by omega)] at ma
      rw [show rdOf ByteArray.empty l (D.getD i 0 : Int) = l.getD (D.getD i 0) ByteArray.empty by unfold rdOf; rw [Int.toNat_natCast]] at ml
      have mm := HM.out (D.getD i 0) hkl
      rw [decide_eq_false (HP.out.new (by omega))] at mm
      obtain ⟨k, hk⟩ : ∃ k, D.getD i 0 = k := ⟨_, rfl⟩
      obtain ⟨x, hx⟩ : ∃ x, l.getD (D.getD i 0) ByteArray.empty = x := ⟨_, rfl⟩
      rw [hx] at ma ml
      rw [hk] at mi ml mm hkl
      have HKX := Lib.hid (And.intro hk hx)
      clear hk hx
      obtain ⟨mm1, mm2⟩ := mm
      have y1 : ∀ q, (wr.drewN q).cell? (pd.add i) = some (.int .i64 (k : Int)) := fun q => mi
      have y2 : ∀ q, (wr.drewN q).cell? (ad.add i) = some (.string x) := fun q => ma
      have y3 : ∀ q, (wr.drewN q).cell? (ld.add k) = some (.string x) := fun q => ml
      have y4 : ∀ q, (wr.drewN q).cell? { block := g, off := k } = some (.bool false) := fun q => mm1
      clear mi ma ml
      have g1 : decide ((k : Int) < 0) = false := decide_eq_false (by omega)
      have g2 : decide (N ≤ k) = false := decide_eq_false (by omega)
      go_wp2_with (fail)
      go_quiet (fail)
      go_wp2_with (fail)
      obtain ⟨w4, hw4⟩ : ∃ w4, w4 = (wr.drewN nq).setCell { block := g, off := k } (.bool true) := ⟨_, rfl⟩
      have s4 : g < w4.heap.size := by rw [hw4]; simpa using hgs
      have B4 : Below w2.heap.size w2 w4 := by
        rw [hw4]
        exact (pw_below_drewN HW.out nq).setCell (by rw [HG.out]; exact Nat.le_refl _) _
      have M4 : ∀ k', k' < N → w4.cell? ⟨g, k', none⟩ = some (.bool (decide (k' ∈ D.take (i + 1)))) ∧ w4.frozen? ⟨g, k', none⟩ = false := by
        intro k' hk'
        have m0 := HM.out k' hk'
        obtain ⟨hk, _⟩ := HKX.out
        have tm := take_mem (D := D) (i := i) (by omega) k'
        rw [hw4, World.frozen?_setCell]
        refine ⟨?_, m0.2⟩
        by_cases e : k' = k
        · subst e
          rw [World.cell?_setCell_same' _ _ _ (by rw [y4 nq]; rfl), decide_eq_true (tm.2 (.inr hk.symm))]
        · rw [World.cell?_setCell_other _ _ _ _ (by intro e'; simp only [Addr.mk.injEq] at e'; exact e e'.2.1.symm)]
          show wr.cell? _ = _
          rw [m0.1]
          have : (k' ∈ D.take i) = (k' ∈ D.take (i + 1)) := by
            rw [tm]
            exact propext ⟨.inl, fun h => h.resolve_right (fun h => e (by rw [h]; exact hk))⟩
          rw [show decide (k' ∈ D.take i) = decide (k' ∈ D.take (i + 1)) by rw [decide_eq_decide, this]]
      rw [← hw4]
      have HB4 := Lib.hid B4
      have HM4 := Lib.hid M4
      clear hw4 B4 M4 y1 y2 y3 y4 mm1 mm2 HM HM3 HB3 g1 g2
      have FIN : ∀ w5, (∃ q os, w5 = Go.Sort.grow (w4.drewN q) os) → g < w5.heap.size ∧ Hid (Below w2.heap.size w2 w5) ∧ Hid (∀ k, k < N → w5.cell? ⟨g, k, none⟩ = some (.bool (decide (k ∈ D.take (i + 1)))) ∧ w5.frozen? ⟨g, k, none⟩ = false) := by
        rintro w5 ⟨q, os, rfl⟩
        have z := bgrow w4 q os
        refine ⟨Nat.lt_of_lt_of_le s4 z.size, Lib.hid (below_step HB4.out z), Lib.hid (fun k hk => ?_)⟩
        rw [Go.Sort.cell?_grow _ _ _ s4, Go.Sort.frozen?_grow _ _ _ s4]
        exact HM4.out k hk
      have FN := Lib.hid FIN
      clear FIN
      by_cases hi0 : i = 0
      · have g3 : decide (0 < i) = false := decide_eq_false (by omega)
        have g4 : decide ((i : Int) > 0) = false := decide_eq_false (by omega)
        have g5 : ¬ (0 : Int) < (i : Int) := by omega
        have g6 : ¬ 0 < i := by omega
        go_big_region_o
        have F := FN.out w4.drew ⟨1, #[], (Go.Sort.grow_empty _).symm⟩
        generalize w4.drew = w5 at F ⊢
        go_wp2_with (fail)
        obtain ⟨f1, f2, f3⟩ := F
        exact ⟨⟨i + 1, by omega, by go_num, f1, f2, f3⟩, by simp only [intOf]; omega⟩
      · obtain ⟨iP, hiP⟩ : ∃ q, q = i - 1 := ⟨_, rfl⟩
        have ec : ((i : Int) - 1).toNat = iP := by omega
        have pc : (0 : Int) ≤ (i : Int) - 1 := by omega
        have pd' : (1 : Int) ≤ (i : Int) := by omega
        have bc : (i : Int) - 1 < (N : Int) := by omega
        have rc : IntKind.i64.wrap ((i : Int) - 1) = (i : Int) - 1 := by rw [IntKind.wrap_i64]; omega
        have g3 : decide (0 < i) = true := decide_eq_true (by omega)
        have g4 : decide ((i : Int) > 0) = true := decide_eq_true (by omega)
        have g5 : (0 : Int) < (i : Int) := by omega
        have g6 : 0 < i := by omega
        have ord := HP.out.2 iP i (by omega) (by omega)
        obtain ⟨hk, hx⟩ := HKX.out
        have hb4 := HB4.out
        have qi := fun n os => Kd.foot_int (Kd.C_below (Kd.C_below CI.out hb4) (bgrow w4 n os)) (i : Int) (by omega) (by omega)
        have qp := fun n os => Kd.foot_int (Kd.C_below (Kd.C_below CI.out hb4) (bgrow w4 n os)) (iP : Int) (by omega) (by omega)
        have qa := fun n os => Kd.foot_string (Kd.C_below (Kd.C_below CA.out hb4) (bgrow w4 n os)) (i : Int) (by omega) (by omega)
        have qb := fun n os => Kd.foot_string (Kd.C_below (Kd.C_below CA.out hb4) (bgrow w4 n os)) (iP : Int) (by omega) (by omega)
        have qi : ∀ n os, (Go.Sort.grow (w4.drewN n) os).cell? (pd.add ((i : Int).toNat)) = some (.int .i64 (rdOf 0 (plc D) (i : Int))) := qi
        have qp : ∀ n os, (Go.Sort.grow (w4.drewN n) os).cell? (pd.add ((iP : Int).toNat)) = some (.int .i64 (rdOf 0 (plc D) (iP : Int))) := qp
        simp only [Int.toNat_natCast] at qi qp qa qb
        simp only [plc_rd D i (by omega)] at qi
        simp only [plc_rd D iP (by omega)] at qp
        simp only [txt_rd l D i (by omega)] at qa
        simp only [txt_rd l D iP (by omega)] at qb
        simp only [hx] at qa ord
        obtain ⟨kp, hkp⟩ : ∃ q, D.getD iP 0 = q := ⟨_, rfl⟩
        obtain ⟨u, hu⟩ : ∃ u, l.getD (D.getD iP 0) ByteArray.empty = u := ⟨_, rfl⟩
        simp only [hu] at qb ord
        simp only [hkp] at qp ord
        simp only [hk] at qi ord
        have K4 : ∀ W : World, Calls Try.prog 18 #[.string u, .string x] W fun e w' => e = .returned (.int .i64 (cmpS u x)) ∧ ∃ q os', w' = Go.Sort.grow (W.drewN q) os' := by
          intro W
          refine (compare_calls u x W).mono ?_
          rintro e w' ⟨rfl, o, rfl⟩
          exact ⟨rfl, 0, #[o], rfl⟩
        have E := eq_eq u x
        have Z : cmpS u x = 0 ↔ u = x := cmpS_zero
        obtain ⟨r, hr⟩ : ∃ r, cmpS u x = r := ⟨_, rfl⟩
        rw [hr] at K4 ord Z
        have KH := Lib.hid K4
        clear K4 hr hu hkp hk hx hb4 HKX
        by_cases hr0 : r = 0
        · have E1 : (u.toList == x.toList) = true := by rw [E, decide_eq_true (by rw [Z.1 hr0])]
          have o2 : kp ≤ k := by rcases ord with h | ⟨_, h⟩ <;> omega
          have d1 : decide (r > 0) = false := decide_eq_false (by omega)
          have d2 : decide (0 < r) = false := decide_eq_false (by omega)
          have d3 : decide (k < kp) = false := decide_eq_false (by omega)
          clear E Z ord hr0 hiP hi0
          refine Go.wp_region_quiet_grown (by assumption) (by kernel_rfl) ?_
          repeat (go_big_quiet_step (first | (go_at_call 18; exact Go.Calls.grown_of (KH.out _))))
          refine wpQuiet_nil ?_
          intro _ hw'
          obtain ⟨⟨nq, osq⟩, hw''⟩ := hw'
          subst hw''
          have F := FN.out (Go.Sort.grow (w4.drewN nq) osq) ⟨nq, osq, rfl⟩
          generalize Go.Sort.grow (w4.drewN nq) osq = w5 at F ⊢
          go_wp2_with (fail)
          obtain ⟨f1, f2, f3⟩ := F
          exact ⟨⟨i + 1, by omega, by go_num, f1, f2, f3⟩, by simp only [intOf]; omega⟩
        · have hne : ¬ u = x := fun e => hr0 (Z.2 e)
          have E1 : (u.toList == x.toList) = false := by rw [E, decide_eq_false (fun e => hne (by cases u; cases x; congr; exact Array.toList_inj.1 e))]
          have d1 : decide (r > 0) = false := decide_eq_false (by rcases ord with h | ⟨h, _⟩ <;> omega)
          have d2 : decide (0 < r) = false := d1
          clear E Z ord hr0 hne hiP hi0
          refine Go.wp_region_quiet_grown (by assumption) (by kernel_rfl) ?_
          repeat (go_big_quiet_step (first | (go_at_call 18; exact Go.Calls.grown_of (KH.out _))))
          refine wpQuiet_nil ?_
          intro _ hw'
          obtain ⟨⟨nq, osq⟩, hw''⟩ := hw'
          subst hw''
          have F := FN.out (Go.Sort.grow (w4.drewN nq) osq) ⟨nq, osq, rfl⟩
          generalize Go.Sort.grow (w4.drewN nq) osq = w5 at F ⊢
          go_wp2_with (fail)
          obtain ⟨f1, f2, f3⟩ := F
          exact ⟨⟨i + 1, by omega, by go_num, f1, f2, f3⟩, by simp only [intOf]; omega⟩
    · have hie : i = N := by omega
      subst hie
      go_wp2_with (first | (go_at_call 20; refine (lives02 _).mono ?_; rintro e w' ⟨rfl, hb⟩; have n1 := Lib.hid (below_step (below_step HB.out HW.out) hb); clear hb))
      go_ret
      exact ⟨rfl, n1.out⟩
end Go.Proofs.Ytnlcpgeapgnkgaa.H
