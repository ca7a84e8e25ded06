/- The walk of name.Sort at any list. -/
import Derived.Test.YtnlcpgeapgnkgaaSortN
namespace Go.Proofs.Ytnlcpgeapgnkgaa.H
open Go.RowKit Go.Proofs.YtnlcpgeapgnkgaaW.PrintWords Go.Proofs.YtnlcpgeapgnkgaaW.PrintLast Go.Proofs.YtnlcpgeapgnkgaaW.PrintMore
open Go.Shelf Go.Sort
set_option linter.unusedVariables false
set_option linter.unusedSimpArgs false
theorem txt_length (l : List ByteArray) (D : List Nat) : (txt l D).length = D.length := by simp [txt]
theorem plc_length (D : List Nat) : (plc D).length = D.length := by simp [plc]
theorem plc_rd (D : List Nat) (i : Nat) (h : i < D.length) : rdOf 0 (plc D) (i : Int) = ((D.getD i 0 : Nat) : Int) := by
  unfold rdOf plc
  rw [Int.toNat_natCast]
  simp [List.getD_eq_getElem?_getD, h]
theorem txt_succ (l : List ByteArray) (D : List Nat) (i : Nat) (h : i < D.length) : (txt l D).take (i + 1) = (txt l D).take i ++ [l.getD (D.getD i 0) ByteArray.empty] := by
  rw [List.take_add_one]
  congr 1
  unfold txt
  rw [List.getElem?_map, List.getElem?_eq_getElem h, List.getD_eq_getElem?_getD (l := D), List.getElem?_eq_getElem h]
  rfl
theorem sortPlacesN (g : Nat) (ad : Addr) (c n N : Nat) (hN : N = n + 1) (l : List ByteArray) (hl : l.length = n + 1) (blk cap : Nat) (w : World) (hn : n + 1 < 1152921504606846976)
    (hg : g < w.heap.size) (hbox : w.cell? ⟨g, 0, none⟩ = some (.slice (some ad) N c)) (hC : ∀ k, k < n + 1 → w.cell? (ad.add k) = some (.string (l.getD k ByteArray.empty))) (hb : ad.block < w.heap.size)
    (ng : g ≠ blk) (na : ad.block ≠ blk) (hH : Holds (encF n) w blk 0 (idA n)) (hblk : blk < w.heap.size) :
    Calls Try.prog 47 #[.slice (some ⟨blk, 0, none⟩) N cap, .func (.func 48) #[] #[.pointer (some ⟨g, 0, none⟩)]] w fun e w' => e = .returned (.tuple #[]) ∧ ∃ d' : Array (Fin (n + 1)), SortP l (vals d') ∧ d'.size = N ∧ SW (encF n) w blk 0 d' w' ∧ Kd.C (Kd.int .i64) w' (some ⟨blk, 0, none⟩) N (plc (vals d')) := by
  subst hN
  exact sortPlaces g ad c n l hl blk cap w hn hg hbox hC hb ng na hH hblk
set_option maxHeartbeats 1000000 in
set_option maxRecDepth 100000 in
theorem sortS_calls (n : Nat) (l : List ByteArray) (ad : Addr) (c : Nat) (w : World) (hl : l.length = n + 1) (hC : Kd.C Kd.string w (some ad) (n + 1) l) (hb : ad.block < w.heap.size) (hn : (n + 1) * 16 ≤ 140737488351232) :
    Calls Try.prog 21 #[.slice (some ad) (n + 1 : Nat) c] w fun e w' => ∃ A1 c1 A2 c2 D, e = .returned (.tuple #[.slice A1 (n + 1) c1, .slice A2 (n + 1) c2]) ∧ SortP l D ∧ n + 1 ≤ c1 ∧ n + 1 ≤ c2 ∧ Kd.R Kd.string 9 w' w.heap.size (fun _ => True) (.slice A1 (n + 1) c1) (txt l D) ∧ Kd.C (Kd.int .i64) w' A2 (n + 1) (plc D) ∧ Below w.heap.size w w' := by
  have H := Lib.hid hC
  have HL0 := Lib.hid hl
  clear hC hl
  obtain ⟨N, hN⟩ : ∃ N, N = n + 1 := ⟨_, rfl⟩
  have HN := Lib.hid hN
  have hn1 : N ≤ n + 1 := by omega
  have hn2 : n + 1 ≤ N := by omega
  rw [← hN] at hn H ⊢
  clear hN
  go_enter Try.func21, Try.ntmps21
  go_wp2_with (fail)
  obtain ⟨w0, hw0⟩ : ∃ w0, w0 = w.alloc (Obj.cells #[.slice (some ad) N c] 48) := ⟨_, rfl⟩
  have hbox : w0.cell? ⟨w.heap.size, 0, none⟩ = some (.slice (some ad) N c) := by rw [hw0]; simp
  have hsz : w0.heap.size = w.heap.size + 1 := by rw [hw0]; simp
  have hB0 : Below w.heap.size w w0 := by rw [hw0]; exact (Below.refl w.heap.size w).alloc (Nat.le_refl _) _
  rw [← hw0]
  clear hw0
  have HS := Lib.hid hsz
  have HB0 := Lib.hid hB0
  clear hsz hB0
  go_loopw [4, 11] (fun v4 v11 wr => ∃ i : Nat, i ≤ N ∧ v11 = .int .i64 i ∧ Hid (Kd.R (Kd.int .i64) 3 wr w0.heap.size (fun _ => True) v4 (upTo i)) ∧ Hid (Below w0.heap.size w0 wr)) (fun _ v11 _ => N - (intOf v11).toNat)
  case atStart => exact ⟨0, by omega, rfl, Lib.hid (Kd.R_nil _ _ _ _ _), Lib.hid (Below.refl _ _)⟩
  case round =>
    obtain ⟨i, hi, rfl, HO, HB⟩ := hrel
    have hbx : wr.cell? ⟨w.heap.size, 0, none⟩ = some (.slice (some ad) N c) := (HB.out.cell (p := ⟨w.heap.size, 0, none⟩) (by rw [HS.out]; exact Nat.lt_succ_self _)).trans hbox
    by_cases hlt : i < N
    · have HL : ((upTo i).length + 1) * 8 ≤ 140737488355328 := by rw [upTo_length]; omega
      have HL := Lib.hid HL
      go_wp2_with (first | ((with_reducible refine gate_builtin (b := .append) (xs := #[.tmp 14, .tmp 16]) rfl ?_); at_builtin; refine Kd.R_append (Kd.int .i64) (w0 := w0) w0.heap.size rfl (.tmp 14) (.tmp 16) 49 3 (.int .i64 0) 8 rfl Try.underlying49 info_int rfl (by decide) (by omega) u4 (upTo i) _ [.int .i64 _] (fun _ => True) (fun _ => False) rfl rfl rfl (fun _ hk => hk.elim) (fun _ _ => trivial) HO.out HB.out HB.out.size HL.out ?_; intro v1 w1 ho hb1 hg hat; clear hg hat; have HO1 := Lib.hid ho; have HB1 := Lib.hid hb1; clear ho hb1))
      exact ⟨⟨i + 1, by omega, by go_num, Lib.hid (by rw [upTo_succ]; exact HO1.out), HB1⟩, by simp only [intOf]; omega⟩
    · have hiN : i = N := by omega
      subst hiN
      obtain ⟨g, c2, e2, gb, gl, cl⟩ := Kd.R_form HO.out (by rw [upTo_length]; omega)
      subst e2
      rw [upTo_length] at HO
      have hH : Holds (encF n) wr g 0 (idA n) := by
        intro j hj
        have hj4 : j < n + 1 := by rw [idA_size] at hj; exact hj
        obtain ⟨h1, h2⟩ := Kd.R_celln 0 HO.out (j : Int) (by omega) (by omega)
        rw [upTo_rd i j (by omega), Int.toNat_natCast] at h1
        rw [Int.toNat_natCast] at h2
        rw [Nat.zero_add, idA_get n j hj4]
        exact ⟨h1, h2⟩
      have hst : ∀ k, k < n + 1 → wr.cell? (ad.add k) = some (.string (l.getD k ByteArray.empty)) := by
        intro k hk
        have h1 := Kd.foot_string (Kd.C_below (Kd.C_below H.out HB0.out) HB.out) (k : Int) (by omega) (by omega)
        rw [Int.toNat_natCast] at h1
        rw [h1]
        unfold rdOf
        rw [Int.toNat_natCast]
      have hsz := HB.out.size
      have hs0 := HS.out
      have K := Lib.hid (sortPlacesN w.heap.size ad c n i HN.out l HL0.out g c2 wr (by omega) (by omega) hbx hst (by omega) (by omega) (by omega) hH gl)
      clear hst hH hbx hsz hs0
      rw [upTo_length]
      go_wp2_with (first | (go_at_call 47; refine K.out.mono ?_; rintro e w2 ⟨rfl, d', hP, hd, hs, hI⟩; have HW := Lib.hid hs; have HP0 := Lib.hid hP; have HD := Lib.hid hd; have HI := Lib.hid hI; clear hs hP hd hI))
      have hB2 := below_SW HB.out gb HW.out
      have HB2 := Lib.hid hB2
      have hbx2 : w2.cell? ⟨w.heap.size, 0, none⟩ = some (.slice (some ad) i c) := (HB2.out.cell (p := ⟨w.heap.size, 0, none⟩) (by rw [HS.out]; exact Nat.lt_succ_self _)).trans hbox
      clear hB2 HW hbox
      obtain ⟨D, hD⟩ : ∃ D, vals d' = D := ⟨_, rfl⟩
      have hDl : D.length = i := by rw [← hD, vals_length]; exact HD.out
      rw [hD] at HP0 HI
      have HDL := Lib.hid hDl
      have hll : l.length = i := by rw [HL0.out, HN.out]
      have HLL := Lib.hid hll
      clear hD HD hDl hll
      obtain ⟨N, hN⟩ : ∃ N, N = i := ⟨_, rfl⟩
      have HNI := Lib.hid hN
      rw [← hN] at HDL HI HLL hn hn1 hn2 hbx2 H HN hi ⊢
      clear hN
      go_loopw [6, 24] (fun v6 v24 wq => ∃ i : Nat, i ≤ N ∧ v24 = .int .i64 i ∧ Hid (Kd.R Kd.string 9 wq w2.heap.size (fun _ => True) v6 ((txt l D).take i)) ∧ Hid (Below w2.heap.size w2 wq)) (fun _ v24 _ => N - (intOf v24).toNat)
      case atStart => exact ⟨0, by omega, rfl, Lib.hid (Kd.R_nil _ _ _ _ _), Lib.hid (Below.refl _ _)⟩
      case round =>
        obtain ⟨j, hj, rfl, HP, HQ⟩ := hrel
        have hbq : wr.cell? ⟨w.heap.size, 0, none⟩ = some (.slice (some ad) N c) := (HQ.out.cell (p := ⟨w.heap.size, 0, none⟩) (by have := HB2.out.size; have := HS.out; show w.heap.size < _; omega)).trans hbx2
        have cI := Kd.C_below HI.out HQ.out
        have cS := Kd.C_below (Kd.C_below (Kd.C_below H.out HB0.out) HB2.out) HQ.out
        by_cases hlt : j < N
        · have hDl := HDL.out
          have hkl := HP0.out.lt (i := j) (by omega)
          obtain ⟨gd, eg, p1⟩ := Kd.at_int cI (j : Int) (by omega) (by omega)
          obtain rfl := Option.some.inj eg
          rw [Int.toNat_natCast] at p1
          have p1' : wr.cell? (({ block := g, off := 0 } : Addr).add j) = some (.int .i64 (rdOf 0 (plc D) (j : Int))) := p1
          have ea : ({ block := g, off := 0 } : Addr).add j = { block := g, off := j } := by
            unfold Addr.add
            by_cases h : j = 0 <;> simp [h]
          rw [plc_rd D j (by omega), ea] at p1'
          have ts := txt_succ l D j (by omega)
          obtain ⟨k, hk⟩ : ∃ k, D.getD j 0 = k := ⟨_, rfl⟩
          rw [hk] at p1' ts hkl
          have hkN : k < N := by have := HLL.out; omega
          have p2 := Kd.foot_string cS (k : Int) (by omega) (by omega)
          rw [Int.toNat_natCast] at p2
          have e3 : rdOf ByteArray.empty l (k : Int) = l.getD k ByteArray.empty := by unfold rdOf; rw [Int.toNat_natCast]
          rw [e3] at p2
          obtain ⟨x, hx⟩ : ∃ x, l.getD k ByteArray.empty = x := ⟨_, rfl⟩
          rw [hx] at p2 ts
          have TS := Lib.hid ts
          have hlen : (((txt l D).take j).length + 1) * 16 ≤ 140737488355328 := by
            rw [List.length_take, txt_length]
            have : min j D.length ≤ j := Nat.min_le_left _ _
            omega
          have HLN := Lib.hid hlen
          obtain ⟨X, hX⟩ : ∃ X, (txt l D).take j = X := ⟨_, rfl⟩
          rw [hX] at HP HLN TS
          clear p1 ea cI cS hk hx ts hlen hX e3 hkl hDl
          go_wp2_with (first | ((with_reducible refine gate_builtin (b := .append) (xs := #[.tmp 28, .tmp 33]) rfl ?_); at_builtin; refine Kd.R_append Kd.string (w0 := w2) w2.heap.size rfl (.tmp 28) (.tmp 33) 48 9 (.string ByteArray.empty) 16 rfl Try.underlying48 info_str rfl (by decide) (by omega) u6 X _ [.string _] (fun _ => True) (fun _ => False) rfl rfl rfl (fun _ hk => hk.elim) (fun _ _ => trivial) HP.out HQ.out HQ.out.size HLN.out ?_; intro v1 w1 ho hb1 hg hat; clear hg hat; have HO1 := Lib.hid ho; have HB1 := Lib.hid hb1; clear ho hb1))
          exact ⟨⟨j + 1, by omega, by go_num, Lib.hid (by rw [TS.out]; exact HO1.out), HB1⟩, by simp only [intOf]; omega⟩
        · have hjN : j = N := by omega
          subst hjN
          have e1 : (txt l D).take j = txt l D := List.take_of_length_le (by rw [txt_length, HDL.out]; omega)
          rw [e1] at HP
          obtain ⟨A1, c1, rfl, hc1, hr1⟩ := Kd.R_reads HP.out
          have hc2 := (Kd.R_reads' HO.out).2.1
          have HI2 := Lib.hid cI
          have HF := Lib.hid (below_step (below_step HB0.out HB2.out) HQ.out)
          have hz : w.heap.size ≤ w2.heap.size := by have := HB2.out.size; have := HS.out; omega
          have HRR := Lib.hid (Kd.R_lower HP.out hz)
          have e2 : (txt l D).length = j := by rw [txt_length, HDL.out]
          rw [e2] at HRR hc1 ⊢
          clear hr1 cI cS e1 e2
          go_wp2_with (fail)
          go_ret2
          have e := HNI.out
          subst e
          exact ⟨_, _, _, _, D, rfl, HP0.out, hc1, hc2, HRR.out, HI2.out, HF.out⟩
set_option maxHeartbeats 1000000 in
set_option maxRecDepth 100000 in
theorem sortNil_calls (A : Option Addr) (c : Nat) (w : World) :
    Calls Try.prog 21 #[.slice A 0 c] w fun e w' => e = .returned (.tuple #[.slice none 0 0, .slice none 0 0]) ∧ Below w.heap.size w w' := by
  go_enter Try.func21, Try.ntmps21
  go_wp2_with (fail)
  have HB := Lib.hid ((Below.refl w.heap.size w).alloc (Nat.le_refl _) (Obj.cells #[.slice A 0 c] 48))
  refine wp_loop_rounds 1 ?_
  rw [rounds_succ]
  go_wp2_with (first | (go_at_call 47; refine (stableNone_calls _ _ _ _).mono ?_; rintro e w1 ⟨rfl, rfl⟩))
  refine wp_loop_rounds 1 ?_
  rw [rounds_succ]
  go_wp2_with (fail)
  go_ret2
  exact ⟨rfl, HB.out⟩
theorem cell_lt {w : World} {a : Addr} {v : Value} (h : w.cell? a = some v) : a.block < w.heap.size := by
  rcases Nat.lt_or_ge a.block w.heap.size with g | g
  · exact g
  · unfold World.cell? at h
    rw [Array.getElem?_eq_none g] at h
    simp at h
/-- name.Sort. -/
theorem sort_calls (l : List ByteArray) (A : Option Addr) (c N : Nat) (w : World) (hC : Kd.C Kd.string w A N l) (hn : N * 16 ≤ 140737488351232) :
    Calls Try.prog 21 #[.slice A N c] w fun e w' => ∃ A1 c1 A2 c2 D, e = .returned (.tuple #[.slice A1 N c1, .slice A2 N c2]) ∧ SortP l D ∧ N ≤ c1 ∧ N ≤ c2 ∧ Kd.R Kd.string 9 w' w.heap.size (fun _ => True) (.slice A1 N c1) (txt l D) ∧ Kd.C (Kd.int .i64) w' A2 N (plc D) ∧ Below w.heap.size w w' := by
  have hl := hC.1
  cases N with
  | zero =>
    obtain rfl : l = [] := List.length_eq_zero_iff.1 hl
    refine (sortNil_calls A c w).mono ?_
    rintro e w' ⟨rfl, h⟩
    exact ⟨_, _, _, _, [], rfl, sortP_nil, Nat.le_refl _, Nat.le_refl _, Kd.R_nil _ _ _ _ _, ⟨rfl, by omega, fun h => absurd h (by omega)⟩, h⟩
  | succ n =>
    obtain ⟨ad, rfl, h0⟩ := Kd.at_string hC 0 (by omega) (by omega)
    have hb := cell_lt h0
    rw [add_block] at hb
    exact sortS_calls n l ad c w hl hC hb hn
end Go.Proofs.Ytnlcpgeapgnkgaa.H
