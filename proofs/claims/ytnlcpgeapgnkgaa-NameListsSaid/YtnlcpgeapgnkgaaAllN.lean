/- name.All of any list; the document's All: the same. -/
import Derived.Test.YtnlcpgeapgnkgaaAll
import Derived.Test.YtnlcpgeapgnkgaaTells
import Derived.Maps.Views
namespace Go.Proofs.Ytnlcpgeapgnkgaa.H
open Go.RowKit Go.Proofs.YtnlcpgeapgnkgaaW.PrintWords Go.Proofs.YtnlcpgeapgnkgaaW.PrintLast Go.Proofs.YtnlcpgeapgnkgaaW.PrintMore
set_option linter.unusedVariables false
set_option linter.unusedSimpArgs false
def bad (l : List ByteArray) : Bool := l.any (fun s => !isL (strN s))
def allE (l : List ByteArray) : Int := if bad l then 2 else if l.Nodup then 0 else 8
theorem str_ne {a b : ByteArray} (h : a ≠ b) : (Lit.string a.data.toList) ≠ .string b.data.toList := by
  intro e
  injection e with e
  exact h (by cases a; cases b; congr; exact Array.toList_inj.1 e)
theorem nodup_step {l : List ByteArray} {i : Nat} (hi : i < l.length) (h : (l.take i).Nodup) : (l.take (i + 1)).Nodup ↔ l[i] ∉ l.take i := by
  rw [List.take_add_one, List.getElem?_eq_getElem hi, Option.toList_some, List.nodup_append]
  constructor
  · rintro ⟨_, _, h3⟩ hm
    exact h3 _ hm _ (List.mem_singleton.2 rfl) rfl
  · intro hn
    exact ⟨h, by simp, fun a ha b hb e => hn (by rw [List.mem_singleton] at hb; rw [← hb, ← e]; exact ha)⟩
theorem nodup_take {l : List ByteArray} (h : l.Nodup) (i : Nat) : (l.take i).Nodup := h.sublist (List.take_sublist i l)
set_option maxHeartbeats 1000000 in
set_option maxRecDepth 100000 in
theorem allN_calls (A : Option Addr) (c n : Nat) (l : List ByteArray) (w : World) (h : Kd.C Kd.string w A n l) (hs : ∀ s ∈ l, s.size ≤ 140737488351232) (hn : n ≤ 140737488351232) :
    Calls Try.prog 23 #[.slice A n c] w fun e w' => e = .returned (.int .i64 (allE l)) ∧ Below w.heap.size w w' := by
  have K := Lib.hid (hass_calls A c n l w h)
  have hl := h.1
  have H := Lib.hid h
  have HL := Lib.hid hl
  have HS := Lib.hid hs
  have hmm := @run_makeMap Try.prog
  obtain ⟨E, hE⟩ : ∃ E, allE l = E := ⟨_, rfl⟩
  have HE := Lib.hid hE
  rw [hE]
  obtain ⟨b, hb⟩ : ∃ b, bad l = b := ⟨_, rfl⟩
  have hb' : (l.any (fun s => !isL (strN s))) = b := hb
  rw [hb'] at K
  have HBad := Lib.hid hb
  clear h hl hs hE hb hb'
  cases b with
  | true =>
    go_enter Try.func23, Try.ntmps23
    go_wp2_with (first | (go_at_call 49; refine K.out.mono ?_; rintro e w1 ⟨rfl, hb⟩; have HB := Lib.hid hb; clear hb))
    go_ret
    exact ⟨ret_i (by rw [← HE.out]; unfold allE; rw [HBad.out]; rfl), HB.out⟩
  | false =>
    go_enter Try.func23, Try.ntmps23
    go_wp2_with (first | (go_at_call 49; refine K.out.mono ?_; rintro e w1 ⟨rfl, hb⟩; have HB := Lib.hid hb; clear hb))
    obtain ⟨b, hbb⟩ : ∃ b, b = w1.heap.size := ⟨_, rfl⟩
    have HO := Lib.hid (World.ownsMap_made (H := Unit) w1 Try.prog 9 (plainElem Try.prog 3))
    have HW := Lib.hid (HB.out.alloc HB.out.size (Obj.map #[] 0))
    have hbw : w.heap.size ≤ b := by rw [hbb]; exact HB.out.size
    rw [← hbb] at HO ⊢
    generalize w1.alloc (Obj.map #[] 0) = w2 at HO HW ⊢
    clear hbb HB
    go_loopw [11] (fun v11 wr => ∃ (i : Nat) (D : DataW Unit), i ≤ n ∧ v11 = .int .i64 i ∧ Hid (wr.ownsMap Try.prog 9 (plainElem Try.prog 3) b i D) ∧ Hid (Below w.heap.size w wr) ∧ Hid ((l.take i).Nodup ∧ Go.Maps.IsMap D ∧ ∀ s : ByteArray, (s ∈ l.take i → D.atKey (.string s.data.toList) (.lit (.int .i64 0)) = .lit (.int .i64 1)) ∧ (s ∉ l.take i → D.atKey (.string s.data.toList) (.lit (.int .i64 0)) = .lit (.int .i64 0)))) (fun v11 _ => n - (intOf v11).toNat)
    case atStart => exact ⟨0, .map [], by omega, rfl, HO, HW, Lib.hid ⟨by simp, ⟨[], rfl⟩, fun s => ⟨fun h => by simp at h, fun _ => rfl⟩⟩⟩
    case round =>
      obtain ⟨i, D, hi, rfl, HO, HW, HD⟩ := hrel
      by_cases hlt : i < n
      · obtain ⟨ad, ea, x1⟩ := Kd.at_string (Kd.C_below H.out HW.out) (i : Int) (by omega) (by omega)
        subst ea
        rw [Int.toNat_natCast] at x1
        have hil : i < l.length := by rw [HL.out]; exact hlt
        have ex : rdOf ByteArray.empty l (i : Int) = l[i] := by unfold rdOf; rw [Int.toNat_natCast, List.getD_eq_getElem?_getD, List.getElem?_eq_getElem hil]; rfl
        have hsz := HS.out _ (List.getElem_mem hil)
        have nd := nodup_step hil HD.out.1
        have hat := HD.out.2.2 l[i]
        have hstep : ∀ s : ByteArray, s ∈ l.take (i + 1) ↔ s ∈ l.take i ∨ s = l[i] := fun s => by
          rw [List.take_add_one, List.mem_append, List.getElem?_eq_getElem hil]; simp
        rw [ex] at x1
        obtain ⟨x, hx⟩ : ∃ x, l[i] = x := ⟨_, rfl⟩
        rw [hx] at x1 hsz nd hat hstep
        have x1' : wr.cell? (ad.add i) = some (.string x) := x1
        have ND := Lib.hid nd
        have ST := Lib.hid hstep
        clear ex hx nd hstep x1
        have hkey := Go.WideMaps.keyOf_string_mk (k := 9) (P := Try.prog) Try.underlying9 (s := x) (by unfold maxLen; omega)
        have HK := Lib.hid hkey
        clear hkey
        by_cases hm : x ∈ l.take i
        · have HAT := Lib.hid (hat.1 hm)
          have HM := Lib.hid hm
          clear hat hm
          go_wp2_with (first
            | (at_lookup; refine wpList_lookup_own_int (H := Unit) _ rfl _ _ 75 rfl 9 3 .i64 keyLaw Try.underlying75 Try.underlying3 (zeroI _) b i _ rfl HO.out _ _ rfl HK.out ?_; intro c hat hwc; obtain rfl : (1 : Int) = c := (by have h9 := HAT.out.symm.trans hat; injection h9 with h8; injection h8); clear hat hwc))
          go_ret
          refine ⟨ret_i ?_, HW.out⟩
          rw [← HE.out]
          unfold allE
          rw [HBad.out, if_neg (by simp), if_neg (fun hnd => (ND.out.1 (nodup_take hnd (i + 1))) HM.out)]
        · have HAT := Lib.hid (hat.2 hm)
          have HM := Lib.hid hm
          clear hat hm
          go_wp2_with (first
            | (at_lookup; refine wpList_lookup_own_int (H := Unit) _ rfl _ _ 75 rfl 9 3 .i64 keyLaw Try.underlying75 Try.underlying3 (zeroI _) b i _ rfl HO.out _ _ rfl HK.out ?_; intro c hat hwc; obtain rfl : (0 : Int) = c := (by have h9 := HAT.out.symm.trans hat; injection h9 with h8; injection h8); clear hat hwc)
            | (at_mapUpdate; refine wpList_mapUpdate_own _ rfl _ _ _ 75 rfl 9 3 keyLaw Try.underlying75 _ b i _ rfl HO.out (by unfold maxLen; omega) _ _ _ rfl rfl HK.out _ [] (plainElem_int Try.underlying3 (by decide)) ?_; intro w3 ho2 hg2; have HO1 := Lib.hid ho2; have HW1 := Lib.hid (HW.out.grown hg2 HW.out.size (fun j hj => by cases hj; exact hbw)); clear ho2 hg2))
          obtain ⟨h1, h2, h3⟩ := HD.out
          refine ⟨⟨i + 1, _, by omega, by go_num, HO1, HW1, Lib.hid ⟨ND.out.2 HM.out, ?_, fun s => ?_⟩⟩, by simp only [intOf]; omega⟩
          · obtain ⟨es, rfl⟩ := h2
            exact ⟨_, rfl⟩
          · by_cases e : s = x
            · subst e
              exact ⟨fun _ => Go.Maps.atKey_put_same h2 (show Go.WideAt.IsKeyLit (.string s.data.toList) from trivial) _ _, fun hz => absurd ((ST.out s).2 (.inr rfl)) hz⟩
            · rw [Go.Maps.atKey_put_other (str_ne e)]
              exact ⟨fun hz => (h3 s).1 (((ST.out s).1 hz).resolve_right e), fun hz => (h3 s).2 (fun q => hz ((ST.out s).2 (.inl q)))⟩
      · have hin : i = n := by omega
        subst hin
        go_wp2_with (fail)
        go_ret
        refine ⟨ret_i ?_, HW.out⟩
        have hnd := HD.out.1
        rw [List.take_of_length_le (by rw [HL.out]; omega)] at hnd
        rw [← HE.out]
        unfold allE
        rw [HBad.out, if_neg (by simp), if_pos hnd]
theorem take_new {l : List ByteArray} {i : Nat} (hi : i < l.length) (s : ByteArray) : s ∈ l.take (i + 1) ↔ s ∈ l.take i ∨ s = l[i] := by
  rw [List.take_add_one, List.mem_append, List.getElem?_eq_getElem hi]; simp
theorem elem_rd {l : List ByteArray} {i : Nat} (hi : i < l.length) : rdOf ByteArray.empty l (i : Int) = l[i] := by
  unfold rdOf; rw [Int.toNat_natCast, List.getD_eq_getElem?_getD, List.getElem?_eq_getElem hi]; rfl
/-- Behind k places looked at: was the text met? -/
def met (l : List ByteArray) (k : Nat) (x : ByteArray) : Bool := (l.take k).any fun s => s.toList == x.toList
theorem met_succ {l : List ByteArray} {k : Nat} (hk : k < l.length) (x : ByteArray) : met l (k + 1) x = (met l k x || (l[k].toList == x.toList)) := by
  unfold met
  rw [List.take_add_one, List.any_append, List.getElem?_eq_getElem hk]
  simp
theorem met_mem {l : List ByteArray} {k : Nat} {x : ByteArray} : met l k x = true ↔ x ∈ l.take k := by
  unfold met
  rw [List.any_eq_true]
  constructor
  · rintro ⟨s, h1, h2⟩
    rw [eq_eq] at h2
    have e := of_decide_eq_true h2
    have : s = x := by cases s; cases x; congr; exact Array.toList_inj.1 e
    rw [← this]; exact h1
  · intro h
    exact ⟨x, h, by rw [eq_eq]; exact decide_eq_true rfl⟩
set_option maxHeartbeats 1000000 in
set_option maxRecDepth 100000 in
theorem refall_calls (A : Option Addr) (c n : Nat) (l : List ByteArray) (w : World) (h : Kd.C Kd.string w A n l) (hs : ∀ s ∈ l, s.size ≤ 140737488351232) (hn : n ≤ 140737488351232) :
    Calls Try.prog 26 #[.slice A n c] w fun e w' => e = .returned (.int .i64 (allE l)) ∧ ∃ q, w' = w.drewN q := by
  have hl := h.1
  have H := Lib.hid h
  have HL := Lib.hid hl
  have HS := Lib.hid hs
  have mixed : Try.prog.follows .mixedOrders = true := by kernel_rfl
  obtain ⟨E, hE⟩ : ∃ E, allE l = E := ⟨_, rfl⟩
  have HE := Lib.hid hE
  rw [hE]
  clear h hl hs hE
  go_enter Try.func26, Try.ntmps26
  go_wp2_with (fail)
  go_loopw [3, 4] (fun v3 v4 wr => ∃ (i q : Nat) (b : Bool), i ≤ n ∧ v4 = .int .i64 i ∧ v3 = .bool b ∧ wr = w.drewN q ∧ Hid ((b = true ↔ ¬ (l.take i).Nodup) ∧ ∀ s ∈ l.take i, isL (strN s) = true)) (fun _ v4 _ => n - (intOf v4).toNat)
  case atStart => exact ⟨0, 0, false, by omega, rfl, rfl, rfl, Lib.hid ⟨by simp, by simp⟩⟩
  case round =>
    obtain ⟨i, q, b, hi, rfl, rfl, rfl, HD⟩ := hrel
    by_cases hlt : i < n
    · obtain ⟨ad, ea, x1⟩ := Kd.at_string (Kd.C_drewN H.out q) (i : Int) (by omega) (by omega)
      subst ea
      rw [Int.toNat_natCast] at x1
      have hil : i < l.length := by rw [HL.out]; exact hlt
      have hsz := HS.out _ (List.getElem_mem hil)
      rw [elem_rd hil] at x1
      obtain ⟨x, hx⟩ : ∃ x, l[i] = x := ⟨_, rfl⟩
      rw [hx] at x1 hsz
      have x1' : w.cell? (ad.add i) = some (.string x) := x1
      have y1 : ∀ k, (w.drewN k).cell? (ad.add i) = some (.string x) := fun k => x1
      have K := fun W => refis_calls x W hsz
      have HX := Lib.hid hx
      clear x1 hx
      obtain ⟨p, hp⟩ : ∃ p, isL (strN x) = p := ⟨_, rfl⟩
      rw [hp] at K
      have KH := Lib.hid K
      have HP := Lib.hid hp
      clear K hp
      cases p with
      | false =>
        go_wp2_with (first | (go_at_call 17; refine (KH.out _).mono ?_; rintro e w' ⟨rfl, rfl⟩))
        go_ret
        refine ⟨ret_i ?_, q, rfl⟩
        rw [← HE.out]
        unfold allE
        have hb : bad l = true := List.any_eq_true.2 ⟨l[i]'(by rw [HL.out]; exact hlt), List.getElem_mem _, by rw [HX.out, HP.out]; rfl⟩
        rw [hb]; rfl
      | true =>
        go_wp2_with (first | (go_at_call 17; refine (KH.out _).mono ?_; rintro e w' ⟨rfl, rfl⟩))
        go_loopw [3, 5] (fun v3 v5 wq => ∃ (k q2 : Nat) (b2 : Bool), k ≤ i ∧ v5 = .int .i64 k ∧ v3 = .bool b2 ∧ wq = w.drewN q2 ∧ Hid (b2 = (b || met l k x))) (fun _ v5 _ => i - (intOf v5).toNat)
        case atStart => exact ⟨0, q, b, by omega, rfl, rfl, rfl, Lib.hid (by simp [met])⟩
        case round =>
          obtain ⟨k, q2, b2, hk, rfl, rfl, rfl, HM⟩ := hrel
          by_cases hlt2 : k < i
          · have z1 := Kd.foot_string (Kd.C_drewN H.out q2) (k : Int) (by omega) (by omega)
            rw [Int.toNat_natCast] at z1
            have hkl : k < l.length := by rw [HL.out]; omega
            rw [elem_rd hkl] at z1
            have hms := met_succ hkl x
            obtain ⟨u, hu⟩ : ∃ u, l[k] = u := ⟨_, rfl⟩
            rw [hu] at z1 hms
            have y2 : ∀ j, (w.drewN j).cell? (ad.add k) = some (.string u) := fun j => z1
            obtain ⟨t, ht⟩ : ∃ t, (u.toList == x.toList) = t := ⟨_, rfl⟩
            rw [ht] at hms
            have HMS := Lib.hid hms
            clear z1 hms hu
            cases b2 with
            | true =>
              clear ht
              go_wp2_with (fail)
              go_quiet (fail)
              go_wp2_with (fail)
              exact ⟨⟨k + 1, q2 + nq, true, by omega, by go_num, rfl, rfl, Lib.hid (by rw [HMS.out, ← Bool.or_assoc, ← HM.out]; rfl)⟩, by simp only [intOf]; omega⟩
            | false =>
              have y3 : ∀ j, ((w.drewN q2).drewN j).cell? (ad.add k) = some (.string u) := fun j => y2 j
              have y4 : ∀ j, ((w.drewN q2).drewN j).cell? (ad.add i) = some (.string x) := fun j => y1 j
              go_wp2_with (fail)
              go_quiet (fail)
              go_wp2_with (fail)
              exact ⟨⟨k + 1, q2 + nq, t, by omega, by go_num, rfl, rfl, Lib.hid (by rw [HMS.out, ← Bool.or_assoc, ← HM.out]; rfl)⟩, by simp only [intOf]; omega⟩
          · have hki : k = i := by omega
            subst hki
            go_wp2_with (fail)
            refine ⟨⟨k + 1, q2, b2, by omega, by go_num, rfl, rfl, Lib.hid ⟨?_, fun s hs => ?_⟩⟩, by simp only [intOf]; omega⟩
            · obtain ⟨h1, h2⟩ := HD.out
              have hkl : k < l.length := by rw [HL.out]; exact hlt
              rw [HM.out]
              by_cases hnd : (l.take k).Nodup
              · have hb0 : b = false := by
                  cases b with
                  | false => rfl
                  | true => exact absurd hnd (h1.1 rfl)
                rw [hb0, nodup_step hkl hnd, HX.out, Bool.false_or, met_mem]
                exact ⟨fun h h' => h' h, fun h => Classical.byContradiction h⟩
              · have hb1 : b = true := h1.2 hnd
                rw [hb1]
                exact ⟨fun _ h => hnd (h.sublist (List.take_sublist_take_left (by omega))), fun _ => rfl⟩
            · rcases (take_new (by rw [HL.out]; exact hlt) s).1 hs with h | h
              · exact HD.out.2 s h
              · rw [h, HX.out]; exact HP.out
    · have hin : i = n := by omega
      subst hin
      have hD := HD.out
      rw [List.take_of_length_le (by rw [HL.out]; omega)] at hD
      obtain ⟨h1, h2⟩ := hD
      have hbad : bad l = false := by
        unfold bad
        rw [List.any_eq_false]
        intro s hs
        rw [h2 s hs]; simp
      have HB := Lib.hid hbad
      have H1 := Lib.hid h1
      clear h1 h2 hbad
      cases b with
      | true =>
        go_wp2_with (fail)
        go_ret
        refine ⟨ret_i ?_, q, rfl⟩
        rw [← HE.out]
        unfold allE
        rw [HB.out, if_neg (by simp), if_neg (by first | exact H1.out.1 rfl | exact H1.out.1 trivial)]
      | false =>
        go_wp2_with (fail)
        go_ret
        refine ⟨ret_i ?_, q, rfl⟩
        rw [← HE.out]
        unfold allE
        rw [HB.out, if_neg (by simp), if_pos (Classical.byContradiction (fun h => by have := H1.out.2 h; first | (cases this; done) | exact this))]
end Go.Proofs.Ytnlcpgeapgnkgaa.H
