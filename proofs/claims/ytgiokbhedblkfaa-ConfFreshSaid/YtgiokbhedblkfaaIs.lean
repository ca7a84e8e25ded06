/- The contract of name.Is. -/
import Derived.Test.YtgiokbhedblkfaaBase
namespace Go.Proofs.Ytgiokbhedblkfaa.H
open Go.RowKit Go.Proofs.YtgiokbhedblkfaaW.PrintWords Go.Proofs.YtgiokbhedblkfaaW.PrintLast Go.Proofs.YtgiokbhedblkfaaW.PrintMore
set_option linter.unusedVariables false
set_option linter.unusedSimpArgs false

def whatI (c : Int) : Int := if 97 ≤ c ∧ c ≤ 122 then 1 else if 48 ≤ c ∧ c ≤ 57 then 2 else if c = 45 then 3 else 0
theorem what_calls (c : Int) (w : World) (h0 : 0 ≤ c) (h1 : c ≤ 255) : Calls Try.prog 97 #[.int .u8 c] w fun e w' => e = .returned (.int .i64 (whatI c)) ∧ w = w' := by
  obtain ⟨r, hr⟩ : ∃ r, whatI c = r := ⟨_, rfl⟩
  rw [hr]
  have HR := Lib.hid hr
  clear hr
  have hc : c < 45 ∨ c = 45 ∨ (45 < c ∧ c < 48) ∨ (48 ≤ c ∧ c ≤ 57) ∨ (57 < c ∧ c < 97) ∨ (97 ≤ c ∧ c ≤ 122) ∨ 122 < c := by omega
  rcases hc with h | rfl | ⟨h, h'⟩ | ⟨h, h'⟩ | ⟨h, h'⟩ | ⟨h, h'⟩ | h
  all_goals
    go_enter Try.func97, Try.ntmps97
    go_wp2
  all_goals first
    | (exfalso; omega)
    | (go_ret; exact ⟨by rw [← HR.out]; unfold whatI; first | (rw [if_pos (by omega)]; rfl) | (rw [if_neg (by omega), if_pos (by omega)]; rfl) | (rw [if_neg (by omega), if_neg (by omega), if_pos (by omega)]; rfl) | (rw [if_neg (by omega), if_neg (by omega), if_neg (by omega)]; rfl), rfl⟩)
theorem is1_calls (c : Int) (w : World) (h0 : 0 ≤ c) (h1 : c ≤ 255) : Calls Try.prog 99 #[.int .u8 c] w fun e w' => e = .returned (.bool (decide (whatI c = 0))) ∧ w = w' := by
  have K := Lib.hid (what_calls c w h0 h1)
  obtain ⟨r, hr⟩ : ∃ r, whatI c = r := ⟨_, rfl⟩
  rw [hr] at K ⊢
  clear hr
  go_enter Try.func99, Try.ntmps99
  go_wp2_with (first | (go_at_call 97; refine K.out.mono ?_; rintro e w' ⟨rfl, rfl⟩))
  go_ret
  exact ⟨ret_b (by by_cases h : r = 0 <;> simp [h]), rfl⟩

def BytesN (l : List Int) : Prop := ∀ x ∈ l, 0 ≤ x ∧ x ≤ 255
set_option maxRecDepth 100000 in
theorem idx_calls (A : Option Addr) (c n : Nat) (l : List Int) (w : World) (h : Kd.C (Kd.int .u8) w A n l) (hb : BytesN l) :
    Calls Try.prog 124 #[.slice A n c, .func (.func 99) #[] #[]] w fun e w' => ∃ r : Int, e = .returned (.int .i64 r) ∧ (0 ≤ r ↔ l.any (fun c => decide (whatI c = 0)) = true) ∧ w = w' := by
  have hl := h.1
  have hm := Kd.C_max h
  have H := Lib.hid h
  have HL := Lib.hid hl
  have HB := Lib.hid hb
  clear h hl hb
  go_enter Try.func124, Try.ntmps124
  go_wp2_with (fail)
  go_loopw [8] (fun v8 wr => ∃ i : Nat, i ≤ n ∧ v8 = .int .i64 i ∧ Hid ((l.take i).any (fun c => decide (whatI c = 0)) = false) ∧ wr = w) (fun v8 _ => n - (intOf v8).toNat)
  case atStart => exact ⟨0, by omega, rfl, Lib.hid rfl, rfl⟩
  case round =>
    obtain ⟨i, hi, rfl, HA, rfl⟩ := hrel
    by_cases hlt : i < n
    · obtain ⟨ad, cs, rfl, h3, h4, h5⟩ := Kd.C_get H.out 0 (i : Int) (by omega) (by omega)
      obtain ⟨x, hx⟩ : ∃ x, l.getD i 0 = x := ⟨_, rfl⟩
      have h4' : cs = [.int .u8 (l.getD i 0)] := h4
      rw [hx] at h4'
      subst h4'
      have h6 : wr.cell? (ad.add (i * 1 + 0)) = some (.int .u8 x) := h5 0 _ rfl
      rw [Nat.mul_one, Nat.add_zero] at h6
      have hil : i < l.length := by rw [HL.out]; exact hlt
      have hxe : l[i]? = some x := by rw [← hx]; simp [List.getD, hil]
      have hx1 : 0 ≤ x ∧ x ≤ 255 := HB.out x (List.mem_of_getElem? hxe)
      have K := Lib.hid (is1_calls x wr hx1.1 hx1.2)
      have HX := Lib.hid hxe
      clear h3 h4 h5 hx hxe hx1 hil
      by_cases hq : whatI x = 0
      · have hq1 : decide (whatI x = 0) = true := decide_eq_true hq
        rw [hq1] at K
        have HQ := Lib.hid hq
        clear hq hq1
        go_wp2_with (first | (go_at_call 99; refine K.out.mono ?_; rintro e w' ⟨rfl, rfl⟩))
        go_ret
        exact ⟨_, rfl, ⟨fun _ => List.any_eq_true.2 ⟨x, List.mem_of_getElem? HX.out, decide_eq_true HQ.out⟩, fun _ => by omega⟩, rfl⟩
      · have hq1 : decide (whatI x = 0) = false := decide_eq_false hq
        rw [hq1] at K
        have HQ := Lib.hid hq
        clear hq hq1
        go_wp2_with (first | (go_at_call 99; refine K.out.mono ?_; rintro e w' ⟨rfl, rfl⟩))
        exact ⟨⟨i + 1, by omega, by go_num, Lib.hid (by rw [List.take_add_one, HX.out, List.any_append, HA.out]; simp [HQ.out]), trivial⟩, by simp only [intOf]; omega⟩
    · have : i = n := by omega
      subst this
      go_wp2_with (fail)
      go_ret
      refine ⟨_, rfl, ⟨fun h => absurd h (by omega), fun h => ?_⟩, rfl⟩
      have := HA.out
      rw [List.take_of_length_le (by rw [HL.out]; omega)] at this
      rw [this] at h
      cases h
theorem has_calls (A : Option Addr) (c n : Nat) (l : List Int) (w : World) (h : Kd.C (Kd.int .u8) w A n l) (hb : BytesN l) :
    Calls Try.prog 98 #[.slice A n c, .func (.func 99) #[] #[]] w fun e w' => e = .returned (.bool (l.any (fun c => decide (whatI c = 0)))) ∧ w = w' := by
  have K := Lib.hid (idx_calls A c n l w h hb)
  obtain ⟨b, hb⟩ : ∃ b, (l.any (fun c => decide (whatI c = 0))) = b := ⟨_, rfl⟩
  rw [hb] at K ⊢
  clear h hb
  go_enter Try.func98, Try.ntmps98
  go_wp2_with (first | (go_at_call 124; refine K.out.mono ?_; rintro e w' ⟨r, rfl, hr, rfl⟩))
  go_ret
  exact ⟨ret_b (by cases b <;> simp_all), rfl⟩

def strN (s : ByteArray) : List Int := s.data.toList.map fun b => (b.toNat : Int)
def isL (l : List Int) : Bool := decide (0 < l.length) && (decide (l.length ≤ 24) && (decide (whatI (l.getD 0 0) = 1) && (!decide (whatI (l.getD (l.length - 1) 0) = 3) && !l.any (fun c => decide (whatI c = 0)))))
theorem strN_get (s : ByteArray) (i : Nat) (h : i < s.size) : (strN s).getD i 0 = (s[i].toNat : Int) := by
  unfold strN
  have : i < s.data.toList.length := by simpa using h
  have h2 : i < s.data.size := h
  simp only [List.getD_eq_getElem?_getD, List.getElem?_map, Array.getElem?_toList, Array.getElem?_eq_getElem h2]
  rfl
theorem strN_len (s : ByteArray) : (strN s).length = s.size := by unfold strN; simp
theorem str_C (W : World) (t : TypeId) (s : ByteArray) (hs : s.size ≤ 9223372036854775807) : Kd.C (Kd.int .u8) (Go.Lib.bytesWorld W t s) (some ⟨W.heap.size, 0, none⟩) s.size (strN s) := by
  refine ⟨strN_len s, hs, fun _ => ⟨_, rfl, fun j p hj => ⟨[.int .u8 p], rfl, rfl, fun i u hu => ?_⟩⟩⟩
  have hj1 := (List.getElem?_eq_some_iff.1 hj).1
  rw [strN_len] at hj1
  have hi : i = 0 := by
    cases i with
    | zero => rfl
    | succ i => cases hu
  subst hi
  obtain rfl : Value.int .u8 p = u := Option.some.inj hu
  have h1 := Go.Lib.bytesWorld_cell W t s j hj1
  have h2 : (strN s).getD j 0 = p := by rw [List.getD_eq_getElem?_getD, hj]; rfl
  rw [strN_get s j hj1] at h2
  have h3 : ((s.data.toList.getD j 0).toNat : Int) = p := by
    rw [← h2, List.getD_eq_getElem?_getD, Array.getElem?_toList, Array.getElem?_eq_getElem (show j < s.data.size from hj1)]
    rfl
  rw [h3] at h1
  have e : (({ block := W.heap.size, off := 0, spot := none } : Addr).add (j * 1 + 0)) = ⟨W.heap.size, j, none⟩ := by
    unfold Addr.add
    by_cases h : j = 0 <;> simp [h]
  show (Go.Lib.bytesWorld W t s).cell? (({ block := W.heap.size, off := 0, spot := none } : Addr).add (j * 1 + 0)) = _
  rw [e]
  exact h1
theorem strN_bytes (s : ByteArray) : BytesN (strN s) := by
  intro x hx
  obtain ⟨b, _, rfl⟩ := List.mem_map.1 hx
  have := b.toNat_lt
  omega
set_option maxRecDepth 100000 in
theorem is_calls (s : ByteArray) (w : World) : Calls Try.prog 43 #[.string s] w fun e w' => e = .returned (.bool (isL (strN s))) ∧ Below w.heap.size w w' := by
  have hl := strN_len s
  have E : s.toList.isEmpty = decide (s.size = 0) := by
    rw [ByteArray.toList_eq]
    cases h : s.data.toList with
    | nil => have : s.size = 0 := by have := congrArg List.length h; simpa using this
             rw [this]; rfl
    | cons a b => have : s.size ≠ 0 := by have := congrArg List.length h; simp at this; omega
                  rw [decide_eq_false this]; rfl
  rcases Nat.eq_zero_or_pos s.size with h0 | h0
  · have hr : isL (strN s) = false := by unfold isL; rw [hl, decide_eq_false (by omega)]; rfl
    rw [hr]
    rw [decide_eq_true h0] at E
    clear hl hr h0
    go_enter Try.func43, Try.ntmps43
    go_wp2_with (fail)
    go_ret
    exact ⟨rfl, Below.refl _ _⟩
  · rw [decide_eq_false (by omega)] at E
    by_cases h1 : 24 < s.size
    · have hr : isL (strN s) = false := by unfold isL; rw [hl, decide_eq_true h0, decide_eq_false (by omega)]; rfl
      rw [hr]
      clear hl hr
      go_enter Try.func43, Try.ntmps43
      go_wp2_with (fail)
      all_goals first | (exfalso; omega) | (go_ret; exact ⟨rfl, Below.refl _ _⟩)
    · have g0 := strN_get s 0 h0
      have g1 := strN_get s (s.size - 1) (by omega)
      have b0 : s[0].toNat < 256 := s[0].toNat_lt
      have b1 : s[s.size - 1].toNat < 256 := s[s.size - 1].toNat_lt
      have K0 := Lib.hid (what_calls (s[0].toNat : Int) w (by omega) (by omega))
      have K1 := Lib.hid (what_calls (s[s.size - 1].toNat : Int) w (by omega) (by omega))
      obtain ⟨r0, hr0⟩ : ∃ r, whatI (s[0].toNat : Int) = r := ⟨_, rfl⟩
      obtain ⟨r1, hr1⟩ : ∃ r, whatI (s[s.size - 1].toNat : Int) = r := ⟨_, rfl⟩
      rw [hr0] at K0
      rw [hr1] at K1
      have hr : isL (strN s) = (decide (r0 = 1) && (!decide (r1 = 3) && !(strN s).any (fun c => decide (whatI c = 0)))) := by
        unfold isL
        rw [hl, decide_eq_true h0, decide_eq_true (by omega), g0, g1, hr0, hr1]; rfl
      rw [hr]
      clear hr g0 g1 hr0 hr1 b0 b1
      have HL := Lib.hid hl
      clear hl
      by_cases q0 : r0 = 1
      · subst q0
        by_cases q1 : r1 = 3
        · subst q1
          go_enter Try.func43, Try.ntmps43
          go_wp2_with (first | (go_at_call 97; first | (with_reducible refine K0.out.mono ?_) | (with_reducible refine K1.out.mono ?_); rintro e w' ⟨rfl, rfl⟩))
          all_goals first | (exfalso; omega) | (go_ret; exact ⟨rfl, Below.refl _ _⟩)
        · have kb := fun W => print_bytes (P := Try.prog) 9 33 5 Try.underlying9 Try.underlying33 Try.underlying5 s W
          have K2 := Lib.hid (has_calls (some ⟨w.heap.size, 0, none⟩) (grownCap w s.size 0 5) s.size (strN s) _ (str_C w 5 s (by omega)) (strN_bytes s))
          have HB := Lib.hid (bytes_below (Below.refl w.heap.size w) (Nat.le_refl _) 5 s)
          obtain ⟨a, ha⟩ : ∃ a, (strN s).any (fun c => decide (whatI c = 0)) = a := ⟨_, rfl⟩
          rw [ha] at K2 ⊢
          clear ha
          have q2 : (r1 == 3) = false := by simpa using q1
          go_enter Try.func43, Try.ntmps43
          go_wp2_with (first
            | (go_at_call 97; first | (with_reducible refine K0.out.mono ?_) | (with_reducible refine K1.out.mono ?_); rintro e w' ⟨rfl, rfl⟩)
            | (go_at_call 98; refine K2.out.mono ?_; rintro e w' ⟨rfl, rfl⟩))
          all_goals first | (exfalso; omega) | (go_ret; exact ⟨ret_b (by simp [q1]), HB.out⟩)
      · go_enter Try.func43, Try.ntmps43
        go_wp2_with (first | (go_at_call 97; first | (with_reducible refine K0.out.mono ?_) | (with_reducible refine K1.out.mono ?_); rintro e w' ⟨rfl, rfl⟩))
        all_goals first | (exfalso; omega) | (go_ret; exact ⟨ret_b (by simp [q0]), Below.refl _ _⟩)
end Go.Proofs.Ytgiokbhedblkfaa.H
