/- The walk of the document's Sort. -/
import Derived.Test.YtnlcpgeapgnkgaaRefSort
namespace Go.Proofs.Ytnlcpgeapgnkgaa.H
open Go.RowKit Go.Proofs.YtnlcpgeapgnkgaaW.PrintWords Go.Proofs.YtnlcpgeapgnkgaaW.PrintLast Go.Proofs.YtnlcpgeapgnkgaaW.PrintMore
set_option linter.unusedVariables false
set_option linter.unusedSimpArgs false
theorem C_none {α : Type} (d : Kd α) (w : World) : d.C w none 0 [] := ⟨rfl, by omega, fun h => absurd h (by omega)⟩
theorem txt_rd' (l : List ByteArray) (D : List Nat) (i : Nat) (h : i < D.length) : rdOf ByteArray.empty (txt l D) (i : Int) = l.getD (D.getD i 0) ByteArray.empty := by
  unfold rdOf txt
  rw [Int.toNat_natCast]
  simp [List.getD_eq_getElem?_getD, h]
set_option maxHeartbeats 4000000 in
set_option maxRecDepth 100000 in
theorem refsort_calls (l : List ByteArray) (A : Option Addr) (c N : Nat) (w : World) (hC : Kd.C Kd.string w A N l) (hs : ∀ s ∈ l, s.size ≤ 140737488351232) (hn : N ≤ 1000) :
    Calls Try.prog 22 #[.slice A N c] w fun e w' => ∃ A1 c1 A2 c2 D, e = .returned (.tuple #[.slice A1 N c1, .slice A2 N c2]) ∧ SortP l D ∧ Kd.C Kd.string w' A1 N (txt l D) ∧ Kd.C (Kd.int .i64) w' A2 N (plc D) ∧ Below w.heap.size w w' := by
  have hl := hC.1
  have H := Lib.hid hC
  have HL := Lib.hid hl
  have HS := Lib.hid hs
  have mixed : Try.prog.follows .mixedOrders = true := by kernel_rfl
  clear hC hl hs
  go_enter Try.func22, Try.ntmps22
  go_wp2_with (fail)
  go_loopw [4, 5, 6] (fun v4 v5 v6 wr => ∃ (i : Nat) (E : List Nat) (A4 : Option Addr) (c4 : Nat) (A5 : Option Addr) (c5 : Nat), i ≤ N ∧ v6 = .int .i64 i ∧ v4 = .slice A4 i c4 ∧ v5 = .slice A5 i c5 ∧ i ≤ c4 ∧ i ≤ c5 ∧ Hid (SortQ l i E) ∧ Hid (Kd.C Kd.string wr A4 i (txt l E)) ∧ Hid (Kd.C (Kd.int .i64) wr A5 i (plc E)) ∧ Hid (Below w.heap.size w wr)) (fun _ _ v6 _ => N - (intOf v6).toNat)
  case atStart => exact ⟨0, [], none, 0, none, 0, by omega, rfl, rfl, rfl, by omega, by omega, Lib.hid ⟨List.Perm.refl _, fun a b _ h => absurd h (by simp)⟩, Lib.hid (C_none _ _), Lib.hid (C_none _ _), Lib.hid (Below.refl _ _)⟩
  case round =>
    obtain ⟨i, E, A4, c4, A5, c5, hi, rfl, rfl, rfl, hc4, hc5, HQ, H4, H5, HB⟩ := hrel
    by_cases hlt : i < N
    · obtain ⟨ld, el, _⟩ := Kd.at_string H.out (i : Int) (by omega) (by omega)
      subst el
      have hEl := HQ.out.len
      have hx0 := Kd.foot_string (Kd.C_below H.out HB.out) (i : Int) (by omega) (by omega)
      rw [Int.toNat_natCast] at hx0
      have e0 : rdOf ByteArray.empty l (i : Int) = l.getD i ByteArray.empty := by unfold rdOf; rw [Int.toNat_natCast]
      rw [e0] at hx0
      have hsz : (l.getD i ByteArray.empty).size ≤ 140737488351232 := by
        have hil : i < l.length := by rw [HL.out]; exact hlt
        rw [List.getD_eq_getElem?_getD, List.getElem?_eq_getElem hil]
        exact HS.out _ (List.getElem_mem hil)
      obtain ⟨x, hx⟩ : ∃ x, l.getD i ByteArray.empty = x := ⟨_, rfl⟩
      rw [hx] at hx0 hsz
      have HX := Lib.hid hx
      have HX0 := Lib.hid hx0
      clear hx hx0 e0
      obtain ⟨w1, hw1⟩ : ∃ w1, w1 = wr := ⟨_, rfl⟩
      rw [← hw1] at H4 H5 HB HX0 ⊢
      clear hw1
      go_wp2_with (fail)
      go_loopw [7] (fun v7 wq => ∃ (k q : Nat), k ≤ i ∧ v7 = .int .i64 k ∧ wq = w1.drewN q ∧ Hid (∀ j, k ≤ j → j < i → 0 < cmpS (l.getD (E.getD j 0) ByteArray.empty) x)) (fun v7 _ => (intOf v7).toNat)
      case atStart => exact ⟨i, 0, by omega, rfl, rfl, Lib.hid (fun j h1 h2 => absurd h2 (by omega))⟩
      case round =>
        obtain ⟨k, q, hk, rfl, rfl, HG⟩ := hrel
        by_cases hk0 : k = 0
        · have QN := Lib.hid (HQ.out.ins (k := k) hk (fun j h1 h2 => by rw [HX.out]; exact HG.out j h1 h2) (.inl hk0))
          have g3 : decide (0 < k) = false := decide_eq_false (by omega)
          have g4 : decide ((k : Int) > 0) = false := decide_eq_false (by omega)
          have g6 : ¬ 0 < k := by omega
          clear hk0
          go_wp2_with (fail)
          go_quiet (fail)
          try rw [World.drewN_drewN]
          obtain ⟨w5, hw5⟩ : ∃ w5, w5 = w1.drewN (q + nq) := ⟨_, rfl⟩
          have b5 : Below w.heap.size w w5 := by rw [hw5]; exact pw_below_drewN HB.out _
          have h4 := Kd.C_drewN H4.out (q + nq)
          have h5 := Kd.C_drewN H5.out (q + nq)
          have hz : w5.cell? (ld.add i) = some (.string x) := by rw [hw5]; exact HX0.out
          have hb0 : ld.block < w5.heap.size := by have := cell_lt hz; rw [add_block] at this; exact this
          have hz5 : ∀ W, Below w5.heap.size w5 W → W.cell? (ld.add i) = some (.string x) := fun W hW => (hW.cell (p := ld.add i) (by rw [add_block]; exact hb0)).trans hz
          rw [← hw5] at h4 h5 ⊢
          have hE1 : (txt l E).length = i := by rw [txt_length, hEl]
          have hE2 : (plc E).length = i := by rw [plc_length, hEl]
          obtain ⟨X0, hX0⟩ : ∃ X, txt l E = X := ⟨_, rfl⟩
          obtain ⟨Y0, hY0⟩ : ∃ Y, plc E = Y := ⟨_, rfl⟩
          have f1 := txt_ins l E k i
          have f2 := plc_ins E k i
          have g1 : (txt l (insK E k i)).length = i + 1 := by rw [txt_length]; unfold insK; rw [List.length_append, List.length_cons, List.length_take, List.length_drop]; omega
          have g2 : (plc (insK E k i)).length = i + 1 := by rw [plc_length]; unfold insK; rw [List.length_append, List.length_cons, List.length_take, List.length_drop]; omega
          rw [HX.out] at f1
          rw [hX0] at h4 hE1 f1
          rw [hY0] at h5 hE2 f2
          obtain ⟨F1, hF1⟩ : ∃ F, txt l (insK E k i) = F := ⟨_, rfl⟩
          obtain ⟨F2, hF2⟩ : ∃ F, plc (insK E k i) = F := ⟨_, rfl⟩
          rw [hF1] at f1 g1
          rw [hF2] at f2 g2
          have HFF := Lib.hid (And.intro hF1 hF2)
          have LF1 := Lib.hid g1
          have LF2 := Lib.hid g2
          rw [← hE1] at h4
          rw [← hE2] at h5
          have t1 := Kd.C_take (m := k) h4 (by omega)
          have t3 := Kd.C_drop (m := k) (c := c4) h4 (by omega) (by omega)
          have t5 := Kd.C_take (m := k) h5 (by omega)
          have t6 := Kd.C_drop (m := k) (c := c5) h5 (by omega) (by omega)
          have l1 : (X0.take k).length = k := by rw [List.length_take]; omega
          have l3 : (X0.drop k).length = i - k := by rw [List.length_drop]; omega
          have l5 : (Y0.take k).length = k := by rw [List.length_take]; omega
          have l6 : (Y0.drop k).length = i - k := by rw [List.length_drop]; omega
          rw [l1] at t1
          rw [l3] at t3
          rw [l5] at t5
          rw [l6] at t6
          obtain ⟨X1, hX1⟩ : ∃ X, X0.take k = X := ⟨_, rfl⟩
          obtain ⟨X3, hX3⟩ : ∃ X, X0.drop k = X := ⟨_, rfl⟩
          obtain ⟨Y1, hY1⟩ : ∃ X, Y0.take k = X := ⟨_, rfl⟩
          obtain ⟨Y3, hY3⟩ : ∃ X, Y0.drop k = X := ⟨_, rfl⟩
          rw [hX1] at t1 l1 f1
          rw [hX3] at t3 l3 f1
          rw [hY1] at t5 l5 f2
          rw [hY3] at t6 l6 f2
          obtain ⟨Z1, hZ1⟩ : ∃ Z, X1 ++ [x] = Z := ⟨_, rfl⟩
          obtain ⟨Z2, hZ2⟩ : ∃ Z, Y1 ++ [(i : Int)] = Z := ⟨_, rfl⟩
          have lz1 : Z1.length = k + 1 := by rw [← hZ1, List.length_append, l1]; rfl
          have lz2 : Z2.length = k + 1 := by rw [← hZ2, List.length_append, l5]; rfl
          rw [hZ1] at f1
          rw [hZ2] at f2
          obtain ⟨is1, his1, hiz1⟩ := Option.map_eq_some_iff.1 info_str
          obtain ⟨is2, his2, hiz2⟩ := Option.map_eq_some_iff.1 info_int
          simp only [Prod.mk.injEq] at hiz1 hiz2
          have a1 := cut_to (P := Try.prog) 48 9 .i64 Try.underlying48 his1 A4 i c4 (k : Int) (by omega) (by omega) hc4
          have a2 := cut_from (P := Try.prog) 48 9 .i64 Try.underlying48 his1 1 hiz1.2.1 A4 i c4 (k : Int) (by omega) (by omega)
          have a3 := cut_to (P := Try.prog) 49 3 .i64 Try.underlying49 his2 A5 i c5 (k : Int) (by omega) (by omega) hc5
          have a4 := cut_from (P := Try.prog) 49 3 .i64 Try.underlying49 his2 1 hiz2.2.1 A5 i c5 (k : Int) (by omega) (by omega)
          rw [Int.toNat_natCast] at a1 a2 a3 a4
          have t3 : Kd.C Kd.string w5 (if c4 = k then A4 else A4.map (·.add (k * 1))) (i - k) X3 := t3
          have t6 : Kd.C (Kd.int .i64) w5 (if c5 = k then A5 else A5.map (·.add (k * 1))) (i - k) Y3 := t6
          obtain ⟨A4', hA4'⟩ : ∃ B, (if c4 = k then A4 else A4.map (·.add (k * 1))) = B := ⟨_, rfl⟩
          obtain ⟨A5', hA5'⟩ : ∃ B, (if c5 = k then A5 else A5.map (·.add (k * 1))) = B := ⟨_, rfl⟩
          rw [hA4'] at a2 t3
          rw [hA5'] at a4 t6
          have T1 := Lib.hid t1
          have T3 := Lib.hid t3
          have T5 := Lib.hid t5
          have T6 := Lib.hid t6
          have HZ := Lib.hid hz5
          have HZ1 := Lib.hid hZ1
          have HZ2 := Lib.hid hZ2
          have HF1 := Lib.hid f1
          have HF2 := Lib.hid f2
          have L1 : Hid ((([] : List ByteArray).length + k) * 16 ≤ 140737488355328) := Lib.hid (by rw [List.length_nil]; omega)
          have L2 : Hid ((X1.length + 1) * 16 ≤ 140737488355328) := Lib.hid (by rw [l1]; omega)
          have L3 : Hid ((Z1.length + (i - k)) * 16 ≤ 140737488355328) := Lib.hid (by rw [lz1]; omega)
          have M1 : Hid ((([] : List Int).length + k) * 8 ≤ 140737488355328) := Lib.hid (by rw [List.length_nil]; omega)
          have M2 : Hid ((Y1.length + 1) * 8 ≤ 140737488355328) := Lib.hid (by rw [l5]; omega)
          have M3 : Hid ((Z2.length + (i - k)) * 8 ≤ 140737488355328) := Lib.hid (by rw [lz2]; omega)
          have B5 := Lib.hid b5
          clear hw5 b5 h4 h5 hz hz5 hE1 hE2 hX0 hY0 f1 f2 g1 g2 hF1 hF2 t1 t3 t5 t6 l1 l3 l5 l6 hX1 hX3 hY1 hY3 hZ1 hZ2 lz1 lz2 his1 his2 hiz1 hiz2 hA4' hA5' hEl
          go_wp2_with (first
            | ((with_reducible refine gate_builtin (b := .append) (xs := #[.tmp 35, .tmp 38]) rfl ?_); at_builtin; refine Kd.R_append_rows Kd.string (w0 := w5) w5.heap.size rfl (.tmp 35) (.tmp 38) 48 9 (.string ByteArray.empty) 16 rfl Try.underlying48 info_str rfl (by decide) (by omega) (.slice none 0 0) ([] : List ByteArray) X1 _ _ _ (fun _ => True) (fun _ => False) rfl rfl (Kd.R_nil _ _ _ _ (fun _ => True)) T1.out (fun _ _ h => h) (fun _ h => h.elim) (fun _ _ => trivial) (Below.refl _ _) (Nat.le_refl _) L1.out ?_; intro v1 w6 ho hb hg hat; clear hg hat; rw [List.nil_append] at ho; have HO1 := Lib.hid ho; have HB1 := Lib.hid hb; have z6 := HZ.out _ hb; clear ho hb)
            | ((with_reducible refine gate_builtin (b := .append) (xs := #[.tmp 40, .tmp 45]) rfl ?_); at_builtin; refine Kd.R_append Kd.string (w0 := w5) w5.heap.size rfl (.tmp 40) (.tmp 45) 48 9 (.string ByteArray.empty) 16 rfl Try.underlying48 info_str rfl (by decide) (by omega) v1 X1 _ [.string _] (fun _ => True) (fun _ => False) rfl rfl rfl (fun _ hk => hk.elim) (fun _ _ => trivial) HO1.out HB1.out HB1.out.size L2.out ?_; intro v2 w7 ho hb hg hat; clear hg hat; rw [HZ1.out] at ho; have HO2 := Lib.hid ho; have HB2 := Lib.hid hb; clear ho hb)
            | ((with_reducible refine gate_builtin (b := .append) (xs := #[.tmp 47, .tmp 50]) rfl ?_); at_builtin; refine Kd.R_append_rows Kd.string (w0 := w5) w5.heap.size rfl (.tmp 47) (.tmp 50) 48 9 (.string ByteArray.empty) 16 rfl Try.underlying48 info_str rfl (by decide) (by omega) v2 Z1 X3 _ _ _ (fun _ => True) (fun _ => False) rfl rfl HO2.out (Kd.C_below T3.out HB2.out) (fun _ _ h => h) (fun _ h => h.elim) (fun _ _ => trivial) HB2.out HB2.out.size L3.out ?_; intro v3 w8 ho hb hg hat; clear hg hat; rw [HF1.out] at ho; obtain ⟨A8, c8, rfl, hc8, hr8⟩ := Kd.R_reads ho; rw [LF1.out] at hc8 hr8; rw [LF1.out]; have H8 := Lib.hid hr8; have HB3 := Lib.hid hb; clear ho hb hr8)
            | ((with_reducible refine gate_builtin (b := .append) (xs := #[.tmp 52, .tmp 55]) rfl ?_); at_builtin; refine Kd.R_append_rows (Kd.int .i64) (w0 := w8) w8.heap.size rfl (.tmp 52) (.tmp 55) 49 3 (.int .i64 0) 8 rfl Try.underlying49 info_int rfl (by decide) (by omega) (.slice none 0 0) ([] : List Int) Y1 _ _ _ (fun _ => True) (fun _ => False) rfl rfl (Kd.R_nil _ _ _ _ (fun _ => True)) (Kd.C_below T5.out HB3.out) (fun _ _ h => h) (fun _ h => h.elim) (fun _ _ => trivial) (Below.refl _ _) (Nat.le_refl _) M1.out ?_; intro v4 w9 ho hb hg hat; clear hg hat; rw [List.nil_append] at ho; have HO4 := Lib.hid ho; have HB4 := Lib.hid hb; clear ho hb)
            | ((with_reducible refine gate_builtin (b := .append) (xs := #[.tmp 57, .tmp 59]) rfl ?_); at_builtin; refine Kd.R_append (Kd.int .i64) (w0 := w8) w8.heap.size rfl (.tmp 57) (.tmp 59) 49 3 (.int .i64 0) 8 rfl Try.underlying49 info_int rfl (by decide) (by omega) v4 Y1 _ [.int .i64 _] (fun _ => True) (fun _ => False) rfl rfl rfl (fun _ hk => hk.elim) (fun _ _ => trivial) HO4.out HB4.out HB4.out.size M2.out ?_; intro v5 w10 ho hb hg hat; clear hg hat; rw [HZ2.out] at ho; have HO5 := Lib.hid ho; have HB5 := Lib.hid hb; clear ho hb)
            | ((with_reducible refine gate_builtin (b := .append) (xs := #[.tmp 61, .tmp 64]) rfl ?_); at_builtin; refine Kd.R_append_rows (Kd.int .i64) (w0 := w8) w8.heap.size rfl (.tmp 61) (.tmp 64) 49 3 (.int .i64 0) 8 rfl Try.underlying49 info_int rfl (by decide) (by omega) v5 Z2 Y3 _ _ _ (fun _ => True) (fun _ => False) rfl rfl HO5.out (Kd.C_below (Kd.C_below T6.out HB3.out) HB5.out) (fun _ _ h => h) (fun _ h => h.elim) (fun _ _ => trivial) HB5.out HB5.out.size M3.out ?_; intro v6 w11 ho hb hg hat; clear hg hat; rw [HF2.out] at ho; obtain ⟨A11, c11, rfl, hc11, hr11⟩ := Kd.R_reads ho; rw [LF2.out] at hc11 hr11; rw [LF2.out]; have H11 := Lib.hid hr11; have HB6 := Lib.hid hb; clear ho hb hr11))
          obtain ⟨hf1, hf2⟩ := HFF.out
          exact ⟨⟨i + 1, insK E k i, A8, c8, A11, c11, by omega, by go_num, rfl, rfl, hc8, hc11, QN, Lib.hid (by rw [hf1]; exact Kd.C_below H8.out HB6.out), Lib.hid (by rw [hf2]; exact H11.out), Lib.hid (below_step (below_step B5.out HB3.out) HB6.out)⟩, by simp only [intOf]; omega⟩
        · obtain ⟨kP, hkP⟩ : ∃ q, q = k - 1 := ⟨_, rfl⟩
          have ec : ((k : Int) - 1).toNat = kP := by omega
          have pc : (0 : Int) ≤ (k : Int) - 1 := by omega
          have pd' : (1 : Int) ≤ (k : Int) := by omega
          have bc : (k : Int) - 1 < (i : Int) := by omega
          have rc : IntKind.i64.wrap ((k : Int) - 1) = (k : Int) - 1 := by rw [IntKind.wrap_i64]; omega
          have g3 : decide (0 < k) = true := decide_eq_true (by omega)
          have g4 : decide ((k : Int) > 0) = true := decide_eq_true (by omega)
          have g5 : (0 : Int) < (k : Int) := by omega
          have g6 : 0 < k := by omega
          obtain ⟨od, eo, hu0⟩ := Kd.at_string (Kd.C_drewN H4.out q) (kP : Int) (by omega) (by omega)
          subst eo
          rw [Int.toNat_natCast, txt_rd' l E kP (by omega)] at hu0
          have hEk := HQ.out.lt (j := kP) (by omega)
          have husz : (l.getD (E.getD kP 0) ByteArray.empty).size ≤ 140737488351232 := by
            have hil : E.getD kP 0 < l.length := by rw [HL.out]; omega
            rw [List.getD_eq_getElem?_getD (l := l), List.getElem?_eq_getElem hil]
            exact HS.out _ (List.getElem_mem hil)
          obtain ⟨u, hu⟩ : ∃ u, l.getD (E.getD kP 0) ByteArray.empty = u := ⟨_, rfl⟩
          rw [hu] at hu0 husz
          have y1 : ∀ n, (w1.drewN n).cell? (od.add kP) = some (.string u) := fun n => hu0
          have y2 : ∀ n, (w1.drewN n).cell? (ld.add i) = some (.string x) := fun n => HX0.out
          have y3 : ∀ n, ((w1.drewN q).drewN n).cell? (od.add kP) = some (.string u) := fun n => hu0
          have y4 : ∀ n, ((w1.drewN q).drewN n).cell? (ld.add i) = some (.string x) := fun n => HX0.out
          have K := fun W => refcompare_calls u x W husz hsz
          obtain ⟨r, hr⟩ : ∃ r, cmpS u x = r := ⟨_, rfl⟩
          rw [hr] at K
          have KH := Lib.hid K
          have HU := Lib.hid (And.intro hu hr)
          have HKP := Lib.hid hkP
          clear K hu hr hu0 hkP hk0
          by_cases hr0 : 0 < r
          · have d1 : decide (r > 0) = true := decide_eq_true hr0
            go_wp2_with (fail)
            go_quiet (first | (go_at_call 19; first | exact quiet_more (KH.out _) | exact quiet_more2 (KH.out _)))
            go_wp2_with (fail)
            obtain ⟨hu, hr⟩ := HU.out
            have hkP := HKP.out
            exact ⟨⟨kP, q + nq, by omega, by go_num, by first | rfl | exact World.drewN_drewN, Lib.hid (fun j h1 h2 => by
              rcases Nat.lt_or_eq_of_le h1 with z | z
              · exact HG.out j (by omega) h2
              · rw [← z, hu, hr]; exact hr0)⟩, by simp only [intOf]; omega⟩
          · have d1 : decide (r > 0) = false := decide_eq_false hr0
            have QN := Lib.hid (HQ.out.ins (k := k) hk (fun j h1 h2 => by rw [HX.out]; exact HG.out j h1 h2) (.inr (by
              obtain ⟨hu, hr⟩ := HU.out
              rw [show k - 1 = kP from HKP.out.symm, HX.out, hu, hr]; omega)))
            go_wp2_with (fail)
            go_quiet (first | (go_at_call 19; first | exact quiet_more (KH.out _) | exact quiet_more2 (KH.out _)))
            try rw [World.drewN_drewN]
            obtain ⟨w5, hw5⟩ : ∃ w5, w5 = w1.drewN (q + nq) := ⟨_, rfl⟩
            have b5 : Below w.heap.size w w5 := by rw [hw5]; exact pw_below_drewN HB.out _
            have h4 := Kd.C_drewN H4.out (q + nq)
            have h5 := Kd.C_drewN H5.out (q + nq)
            have hz : w5.cell? (ld.add i) = some (.string x) := by rw [hw5]; exact HX0.out
            have hb0 : ld.block < w5.heap.size := by have := cell_lt hz; rw [add_block] at this; exact this
            have hz5 : ∀ W, Below w5.heap.size w5 W → W.cell? (ld.add i) = some (.string x) := fun W hW => (hW.cell (p := ld.add i) (by rw [add_block]; exact hb0)).trans hz
            rw [← hw5] at h4 h5 ⊢
            have hE1 : (txt l E).length = i := by rw [txt_length, hEl]
            have hE2 : (plc E).length = i := by rw [plc_length, hEl]
            obtain ⟨X0, hX0⟩ : ∃ X, txt l E = X := ⟨_, rfl⟩
            obtain ⟨Y0, hY0⟩ : ∃ Y, plc E = Y := ⟨_, rfl⟩
            have f1 := txt_ins l E k i
            have f2 := plc_ins E k i
            have g1 : (txt l (insK E k i)).length = i + 1 := by rw [txt_length]; unfold insK; rw [List.length_append, List.length_cons, List.length_take, List.length_drop]; omega
            have g2 : (plc (insK E k i)).length = i + 1 := by rw [plc_length]; unfold insK; rw [List.length_append, List.length_cons, List.length_take, List.length_drop]; omega
            rw [HX.out] at f1
            rw [hX0] at h4 hE1 f1
            rw [hY0] at h5 hE2 f2
            obtain ⟨F1, hF1⟩ : ∃ F, txt l (insK E k i) = F := ⟨_, rfl⟩
            obtain ⟨F2, hF2⟩ : ∃ F, plc (insK E k i) = F := ⟨_, rfl⟩
            rw [hF1] at f1 g1
            rw [hF2] at f2 g2
            have HFF := Lib.hid (And.intro hF1 hF2)
            have LF1 := Lib.hid g1
            have LF2 := Lib.hid g2
            rw [← hE1] at h4
            rw [← hE2] at h5
            have t1 := Kd.C_take (m := k) h4 (by omega)
            have t3 := Kd.C_drop (m := k) (c := c4) h4 (by omega) (by omega)
            have t5 := Kd.C_take (m := k) h5 (by omega)
            have t6 := Kd.C_drop (m := k) (c := c5) h5 (by omega) (by omega)
            have l1 : (X0.take k).length = k := by rw [List.length_take]; omega
            have l3 : (X0.drop k).length = i - k := by rw [List.length_drop]; omega
            have l5 : (Y0.take k).length = k := by rw [List.length_take]; omega
            have l6 : (Y0.drop k).length = i - k := by rw [List.length_drop]; omega
            rw [l1] at t1
            rw [l3] at t3
            rw [l5] at t5
            rw [l6] at t6
            obtain ⟨X1, hX1⟩ : ∃ X, X0.take k = X := ⟨_, rfl⟩
            obtain ⟨X3, hX3⟩ : ∃ X, X0.drop k = X := ⟨_, rfl⟩
            obtain ⟨Y1, hY1⟩ : ∃ X, Y0.take k = X := ⟨_, rfl⟩
            obtain ⟨Y3, hY3⟩ : ∃ X, Y0.drop k = X := ⟨_, rfl⟩
            rw [hX1] at t1 l1 f1
            rw [hX3] at t3 l3 f1
            rw [hY1] at t5 l5 f2
            rw [hY3] at t6 l6 f2
            obtain ⟨Z1, hZ1⟩ : ∃ Z, X1 ++ [x] = Z := ⟨_, rfl⟩
            obtain ⟨Z2, hZ2⟩ : ∃ Z, Y1 ++ [(i : Int)] = Z := ⟨_, rfl⟩
            have lz1 : Z1.length = k + 1 := by rw [← hZ1, List.length_append, l1]; rfl
            have lz2 : Z2.length = k + 1 := by rw [← hZ2, List.length_append, l5]; rfl
            rw [hZ1] at f1
            rw [hZ2] at f2
            obtain ⟨is1, his1, hiz1⟩ := Option.map_eq_some_iff.1 info_str
            obtain ⟨is2, his2, hiz2⟩ := Option.map_eq_some_iff.1 info_int
            simp only [Prod.mk.injEq] at hiz1 hiz2
            have a1 := cut_to (P := Try.prog) 48 9 .i64 Try.underlying48 his1 (some od) i c4 (k : Int) (by omega) (by omega) hc4
            have a2 := cut_from (P := Try.prog) 48 9 .i64 Try.underlying48 his1 1 hiz1.2.1 (some od) i c4 (k : Int) (by omega) (by omega)
            have a3 := cut_to (P := Try.prog) 49 3 .i64 Try.underlying49 his2 A5 i c5 (k : Int) (by omega) (by omega) hc5
            have a4 := cut_from (P := Try.prog) 49 3 .i64 Try.underlying49 his2 1 hiz2.2.1 A5 i c5 (k : Int) (by omega) (by omega)
            rw [Int.toNat_natCast] at a1 a2 a3 a4
            have t3 : Kd.C Kd.string w5 (if c4 = k then (some od) else (some od).map (·.add (k * 1))) (i - k) X3 := t3
            have t6 : Kd.C (Kd.int .i64) w5 (if c5 = k then A5 else A5.map (·.add (k * 1))) (i - k) Y3 := t6
            obtain ⟨A4', hA4'⟩ : ∃ B, (if c4 = k then (some od) else (some od).map (·.add (k * 1))) = B := ⟨_, rfl⟩
            obtain ⟨A5', hA5'⟩ : ∃ B, (if c5 = k then A5 else A5.map (·.add (k * 1))) = B := ⟨_, rfl⟩
            rw [hA4'] at a2 t3
            rw [hA5'] at a4 t6
            have T1 := Lib.hid t1
            have T3 := Lib.hid t3
            have T5 := Lib.hid t5
            have T6 := Lib.hid t6
            have HZ := Lib.hid hz5
            have HZ1 := Lib.hid hZ1
            have HZ2 := Lib.hid hZ2
            have HF1 := Lib.hid f1
            have HF2 := Lib.hid f2
            have L1 : Hid ((([] : List ByteArray).length + k) * 16 ≤ 140737488355328) := Lib.hid (by rw [List.length_nil]; omega)
            have L2 : Hid ((X1.length + 1) * 16 ≤ 140737488355328) := Lib.hid (by rw [l1]; omega)
            have L3 : Hid ((Z1.length + (i - k)) * 16 ≤ 140737488355328) := Lib.hid (by rw [lz1]; omega)
            have M1 : Hid ((([] : List Int).length + k) * 8 ≤ 140737488355328) := Lib.hid (by rw [List.length_nil]; omega)
            have M2 : Hid ((Y1.length + 1) * 8 ≤ 140737488355328) := Lib.hid (by rw [l5]; omega)
            have M3 : Hid ((Z2.length + (i - k)) * 8 ≤ 140737488355328) := Lib.hid (by rw [lz2]; omega)
            have B5 := Lib.hid b5
            clear hw5 b5 h4 h5 hz hz5 hE1 hE2 hX0 hY0 f1 f2 g1 g2 hF1 hF2 t1 t3 t5 t6 l1 l3 l5 l6 hX1 hX3 hY1 hY3 hZ1 hZ2 lz1 lz2 his1 his2 hiz1 hiz2 hA4' hA5' hEl
            go_wp2_with (first
              | ((with_reducible refine gate_builtin (b := .append) (xs := #[.tmp 35, .tmp 38]) rfl ?_); at_builtin; refine Kd.R_append_rows Kd.string (w0 := w5) w5.heap.size rfl (.tmp 35) (.tmp 38) 48 9 (.string ByteArray.empty) 16 rfl Try.underlying48 info_str rfl (by decide) (by omega) (.slice none 0 0) ([] : List ByteArray) X1 _ _ _ (fun _ => True) (fun _ => False) rfl rfl (Kd.R_nil _ _ _ _ (fun _ => True)) T1.out (fun _ _ h => h) (fun _ h => h.elim) (fun _ _ => trivial) (Below.refl _ _) (Nat.le_refl _) L1.out ?_; intro v1 w6 ho hb hg hat; clear hg hat; rw [List.nil_append] at ho; have HO1 := Lib.hid ho; have HB1 := Lib.hid hb; have z6 := HZ.out _ hb; clear ho hb)
              | ((with_reducible refine gate_builtin (b := .append) (xs := #[.tmp 40, .tmp 45]) rfl ?_); at_builtin; refine Kd.R_append Kd.string (w0 := w5) w5.heap.size rfl (.tmp 40) (.tmp 45) 48 9 (.string ByteArray.empty) 16 rfl Try.underlying48 info_str rfl (by decide) (by omega) v1 X1 _ [.string _] (fun _ => True) (fun _ => False) rfl rfl rfl (fun _ hk => hk.elim) (fun _ _ => trivial) HO1.out HB1.out HB1.out.size L2.out ?_; intro v2 w7 ho hb hg hat; clear hg hat; rw [HZ1.out] at ho; have HO2 := Lib.hid ho; have HB2 := Lib.hid hb; clear ho hb)
              | ((with_reducible refine gate_builtin (b := .append) (xs := #[.tmp 47, .tmp 50]) rfl ?_); at_builtin; refine Kd.R_append_rows Kd.string (w0 := w5) w5.heap.size rfl (.tmp 47) (.tmp 50) 48 9 (.string ByteArray.empty) 16 rfl Try.underlying48 info_str rfl (by decide) (by omega) v2 Z1 X3 _ _ _ (fun _ => True) (fun _ => False) rfl rfl HO2.out (Kd.C_below T3.out HB2.out) (fun _ _ h => h) (fun _ h => h.elim) (fun _ _ => trivial) HB2.out HB2.out.size L3.out ?_; intro v3 w8 ho hb hg hat; clear hg hat; rw [HF1.out] at ho; obtain ⟨A8, c8, rfl, hc8, hr8⟩ := Kd.R_reads ho; rw [LF1.out] at hc8 hr8; rw [LF1.out]; have H8 := Lib.hid hr8; have HB3 := Lib.hid hb; clear ho hb hr8)
              | ((with_reducible refine gate_builtin (b := .append) (xs := #[.tmp 52, .tmp 55]) rfl ?_); at_builtin; refine Kd.R_append_rows (Kd.int .i64) (w0 := w8) w8.heap.size rfl (.tmp 52) (.tmp 55) 49 3 (.int .i64 0) 8 rfl Try.underlying49 info_int rfl (by decide) (by omega) (.slice none 0 0) ([] : List Int) Y1 _ _ _ (fun _ => True) (fun _ => False) rfl rfl (Kd.R_nil _ _ _ _ (fun _ => True)) (Kd.C_below T5.out HB3.out) (fun _ _ h => h) (fun _ h => h.elim) (fun _ _ => trivial) (Below.refl _ _) (Nat.le_refl _) M1.out ?_; intro v4 w9 ho hb hg hat; clear hg hat; rw [List.nil_append] at ho; have HO4 := Lib.hid ho; have HB4 := Lib.hid hb; clear ho hb)
              | ((with_reducible refine gate_builtin (b := .append) (xs := #[.tmp 57, .tmp 59]) rfl ?_); at_builtin; refine Kd.R_append (Kd.int .i64) (w0 := w8) w8.heap.size rfl (.tmp 57) (.tmp 59) 49 3 (.int .i64 0) 8 rfl Try.underlying49 info_int rfl (by decide) (by omega) v4 Y1 _ [.int .i64 _] (fun _ => True) (fun _ => False) rfl rfl rfl (fun _ hk => hk.elim) (fun _ _ => trivial) HO4.out HB4.out HB4.out.size M2.out ?_; intro v5 w10 ho hb hg hat; clear hg hat; rw [HZ2.out] at ho; have HO5 := Lib.hid ho; have HB5 := Lib.hid hb; clear ho hb)
              | ((with_reducible refine gate_builtin (b := .append) (xs := #[.tmp 61, .tmp 64]) rfl ?_); at_builtin; refine Kd.R_append_rows (Kd.int .i64) (w0 := w8) w8.heap.size rfl (.tmp 61) (.tmp 64) 49 3 (.int .i64 0) 8 rfl Try.underlying49 info_int rfl (by decide) (by omega) v5 Z2 Y3 _ _ _ (fun _ => True) (fun _ => False) rfl rfl HO5.out (Kd.C_below (Kd.C_below T6.out HB3.out) HB5.out) (fun _ _ h => h) (fun _ h => h.elim) (fun _ _ => trivial) HB5.out HB5.out.size M3.out ?_; intro v6 w11 ho hb hg hat; clear hg hat; rw [HF2.out] at ho; obtain ⟨A11, c11, rfl, hc11, hr11⟩ := Kd.R_reads ho; rw [LF2.out] at hc11 hr11; rw [LF2.out]; have H11 := Lib.hid hr11; have HB6 := Lib.hid hb; clear ho hb hr11))
            obtain ⟨hf1, hf2⟩ := HFF.out
            exact ⟨⟨i + 1, insK E k i, A8, c8, A11, c11, by omega, by go_num, rfl, rfl, hc8, hc11, QN, Lib.hid (by rw [hf1]; exact Kd.C_below H8.out HB6.out), Lib.hid (by rw [hf2]; exact H11.out), Lib.hid (below_step (below_step B5.out HB3.out) HB6.out)⟩, by simp only [intOf]; omega⟩
    · have hiN : i = N := by omega
      subst hiN
      have hq : SortP l E := by
        have := HQ.out
        rw [← HL.out] at this
        exact this
      have HP := Lib.hid hq
      clear hq
      go_wp2_with (fail)
      go_ret2
      exact ⟨_, _, _, _, E, rfl, HP.out, H4.out, H5.out, HB.out⟩
end Go.Proofs.Ytnlcpgeapgnkgaa.H
