/- The walk of NameLists. -/
import Derived.Test.YtnlcpgeapgnkgaaRefSortW
import Derived.Test.YtnlcpgeapgnkgaaAllN
import Derived.Test.YtnlcpgeapgnkgaaSortsLaw
namespace Go.Proofs.Ytnlcpgeapgnkgaa.H
open Go.RowKit Go.Proofs.YtnlcpgeapgnkgaaW.PrintWords Go.Proofs.YtnlcpgeapgnkgaaW.PrintLast Go.Proofs.YtnlcpgeapgnkgaaW.PrintMore
set_option linter.unusedVariables false
set_option linter.unusedSimpArgs false
theorem low_of_dr {w w' : World} {q : Nat} (h : w' = w.drewN q) : Below w.heap.size w w' := by rw [h]; exact quiet_below q
set_option maxHeartbeats 4000000 in
set_option maxRecDepth 100000 in
theorem nameLists_walk {A : Option Addr} {c : Nat} {l : List ByteArray} (w : World) (hC : Kd.C Kd.string w A l.length l) (hl : l.length ≤ c) (hw : l.length ≤ 9223372036854775807 ∧ l.length * 16 ≤ 140737488351232 ∧ ∀ x ∈ l, x.size ≤ 140737488351232) :
    Calls Try.prog 6 #[.slice A l.length c] w fun e w' => e = .returned (.bool true) ∧ Below w.heap.size w w' := by
  have HC := Lib.hid hC
  obtain ⟨hw1, hw2, hw3⟩ := hw
  have HS := Lib.hid hw3
  obtain ⟨N, hN⟩ : ∃ N, l.length = N := ⟨_, rfl⟩
  have HN := Lib.hid hN
  rw [hN] at HC hw1 hw2 hl ⊢
  clear hC hN hw3
  by_cases hbig : 60 < N
  · go_enter Try.func6, Try.ntmps6
    go_wp2_with (first | (go_at_call 20; refine (lives02 _).mono ?_; rintro e w' ⟨rfl, hb⟩; have n1 := Lib.hid hb; clear hb))
    all_goals first | (exfalso; omega) | (go_ret; exact ⟨rfl, n1.out⟩)
  · have LL : Hid ((([] : List ByteArray).length + N) * 16 ≤ 140737488355328) := Lib.hid (by rw [List.length_nil]; omega)
    have hN2 : ([] ++ l : List ByteArray) = l := List.nil_append l
    have HE := Lib.hid hN2
    clear hN2
    go_enter Try.func6, Try.ntmps6
    go_wp2_with (first
      | ((with_reducible refine gate_builtin (b := .append) (xs := #[.tmp 15, .tmp 16]) rfl ?_); at_builtin; refine Kd.R_append_rows Kd.string (w0 := w) w.heap.size rfl (.tmp 15) (.tmp 16) 48 9 (.string ByteArray.empty) 16 rfl Try.underlying48 info_str rfl (by decide) (by omega) (.slice none 0 0) ([] : List ByteArray) l _ _ _ (fun _ => True) (fun _ => False) rfl rfl (Kd.R_nil _ _ _ _ (fun _ => True)) HC.out (fun _ _ h => h) (fun _ h => h.elim) (fun _ _ => trivial) (Below.refl _ _) (Nat.le_refl _) LL.out ?_; intro v1 w1 ho hb hg hat; clear hg hat; rw [HE.out] at ho; obtain ⟨A3, c3, rfl, hc3, hr3⟩ := Kd.R_reads ho; rw [HN.out] at hc3 hr3; rw [HN.out]; have H3 := Lib.hid hr3; have HB1 := Lib.hid hb; clear ho hb hr3)
      | (go_at_call 21; refine (sort_calls l A3 c3 N _ H3.out (by omega)).mono ?_; rintro e w2 ⟨A1, c1, A2, c2, D, rfl, hP, hc1, hc2, hr, hi, hb⟩; have HP := Lib.hid hP; have HR := Lib.hid hr; have HI := Lib.hid hi; have HB2 := Lib.hid hb; have ca := Kd.R_reads' hr; have cb := ca.2.2; rw [← ca.1] at cb; have CA2 := Lib.hid cb; clear hP hr hi hb ca cb)
      | (go_at_call 22; refine (refsort_calls l A c N _ (Kd.C_below (Kd.C_below HC.out HB1.out) HB2.out) HS.out (by omega)).mono ?_; rintro e w3 ⟨B1, d1, B2, d2, D', rfl, hP', hr, hi, hb⟩; obtain rfl := HP.out.unique hP'; have HR3 := Lib.hid hr; have HI3 := Lib.hid hi; have HB3 := Lib.hid hb; clear hP' hr hi hb)
      | (go_at_call 23; refine (allN_calls A3 c3 N l _ (Kd.C_below (Kd.C_below H3.out HB2.out) HB3.out) HS.out (by omega)).mono ?_; rintro e w4 ⟨rfl, hb⟩; have HB4 := Lib.hid hb; clear hb)
      | (go_at_call 24; refine (texts_calls A1 B1 c1 d1 N (txt l D) _ (Kd.C_below (Kd.C_below CA2.out HB3.out) HB4.out) (Kd.C_below HR3.out HB4.out)).mono ?_; rintro e w5 ⟨rfl, q5, hq5⟩; have HB5 := Lib.hid (low_of_dr hq5); clear hq5)
      | (go_at_call 25; refine (ints_calls A2 B2 c2 d2 N (plc D) _ (Kd.C_below (Kd.C_below (Kd.C_below HI.out HB3.out) HB4.out) HB5.out) (Kd.C_below (Kd.C_below HI3.out HB4.out) HB5.out)).mono ?_; rintro e w6 ⟨rfl, q6, hq6⟩; have HB6 := Lib.hid (low_of_dr hq6); clear hq6)
      | (go_at_call 26; refine (refall_calls A c N l _ (Kd.C_below HC.out (below_step (below_step (below_step (below_step (below_step HB1.out HB2.out) HB3.out) HB4.out) HB5.out) HB6.out)) HS.out (by omega)).mono ?_; rintro e w7 ⟨rfl, q7, hq7⟩; have HB7 := Lib.hid (low_of_dr hq7); clear hq7))
    have B27 := Lib.hid (below_step (below_step (below_step (below_step HB3.out HB4.out) HB5.out) HB6.out) HB7.out)
    have hcell : ∀ k, k < N → ∃ g, A1 = some ⟨g, 0, none⟩ ∧ w1.heap.size ≤ g ∧ (∃ s, w7.cell? ⟨g, k, none⟩ = some (.string s)) ∧ w7.frozen? ⟨g, k, none⟩ = false := by
      intro k hk
      have ht : (txt l D).length = N := by rw [txt_length, HP.out.len, HN.out]
      obtain ⟨g, cc, he, hb, hg, _⟩ := Kd.R_form HR.out (by omega)
      injection he with he1 he2 he3
      subst he1
      have r := HR.out
      obtain ⟨z1, z2⟩ := Kd.R_celln ByteArray.empty r (k : Int) (by omega) (by omega)
      rw [Int.toNat_natCast] at z1 z2
      exact ⟨g, rfl, hb, ⟨_, (B27.out.cell (p := ⟨g, k, none⟩) hg).trans z1⟩, (B27.out.frozen (p := ⟨g, k, none⟩) hg).trans z2⟩
    have B17 := Lib.hid (below_step HB2.out B27.out)
    have HCELL := Lib.hid hcell
    clear hcell
    go_loopw [10] (fun v10 wr => ∃ i : Nat, i ≤ N ∧ v10 = .int .i64 i ∧ Hid (Below w1.heap.size w1 wr) ∧ Hid (∀ k, k < N → ∃ g, A1 = some ⟨g, 0, none⟩ ∧ w1.heap.size ≤ g ∧ (∃ s, wr.cell? ⟨g, k, none⟩ = some (.string s)) ∧ wr.frozen? ⟨g, k, none⟩ = false)) (fun v10 _ => N - (intOf v10).toNat)
    case atStart => exact ⟨0, by omega, rfl, B17, HCELL⟩
    case round =>
      obtain ⟨i, hi, rfl, HW, HX⟩ := hrel
      by_cases hlt : i < N
      · obtain ⟨g, rfl, hg, ⟨s, hs⟩, hf⟩ := HX.out i hlt
        have HS1 := Lib.hid (And.intro hg hs)
        have B' := Lib.hid (HW.out.setCell (p := ⟨g, i, none⟩) hg (.string ⟨#[111, 116, 104, 101, 114]⟩))
        have X' : Hid (∀ k, k < N → ∃ g', (some (⟨g, 0, none⟩ : Addr)) = some ⟨g', 0, none⟩ ∧ w1.heap.size ≤ g' ∧ (∃ s, (wr.setCell ⟨g, i, none⟩ (.string ⟨#[111, 116, 104, 101, 114]⟩)).cell? ⟨g', k, none⟩ = some (.string s)) ∧ (wr.setCell ⟨g, i, none⟩ (.string ⟨#[111, 116, 104, 101, 114]⟩)).frozen? ⟨g', k, none⟩ = false) := Lib.hid (by
          intro k hk
          obtain ⟨g', e, h1, ⟨s', h2⟩, h3⟩ := HX.out k hk
          injection e with e
          injection e with e
          subst e
          refine ⟨g, rfl, h1, ?_, by rw [World.frozen?_setCell]; exact h3⟩
          by_cases q : k = i
          · subst q
            exact ⟨_, World.cell?_setCell_same' _ _ _ (by rw [h2]; rfl)⟩
          · exact ⟨s', by rw [World.cell?_setCell_other _ _ _ _ (by intro e'; simp only [Addr.mk.injEq] at e'; exact q e'.2.1.symm)]; exact h2⟩)
        go_wp2_with (fail)
        exact ⟨⟨i + 1, by omega, by go_num, B', X'⟩, by simp only [intOf]; omega⟩
      · have hiN : i = N := by omega
        subst hiN
        have TX := Lib.hid (texts_calls A3 A c3 c i l wr (Kd.C_below H3.out HW.out) (Kd.C_below HC.out (below_step HB1.out HW.out)))
        go_wp2_with (first
          | (go_at_call 24; refine TX.out.mono ?_; rintro e w8 ⟨rfl, q8, hq8⟩; have HB8 := Lib.hid (low_of_dr hq8); clear hq8)
          | (go_at_call 20; refine (lives02 _).mono ?_; rintro e w' ⟨rfl, hb⟩; have n1 := Lib.hid (below_step (below_step (below_step HB1.out HW.out) HB8.out) hb); clear hb))
        go_ret
        exact ⟨rfl, n1.out⟩
end Go.Proofs.Ytnlcpgeapgnkgaa.H
