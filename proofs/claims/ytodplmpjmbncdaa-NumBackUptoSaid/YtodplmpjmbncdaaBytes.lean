/- The contracts of the document's Put and Get, and of the helpers Copy, Wide and Left. -/
import Derived.Test.YtodplmpjmbncdaaGet
namespace Go.Proofs.Ytodplmpjmbncdaa.H
open Go.RowKit Go.Proofs.YtodplmpjmbncdaaW.PrintWords Go.Proofs.YtodplmpjmbncdaaW.PrintLast Go.Proofs.YtodplmpjmbncdaaW.PrintMore
set_option linter.unusedVariables false
set_option linter.unusedSimpArgs false

theorem get_calls (A : Option Addr) (c : Nat) (l : List Int) (i s : Int) (w : World) (h : Kd.C (Kd.int .u8) w A l.length l) (hc : l.length ≤ c) (hb : Bytes l) :
    Calls Try.prog 31 #[.slice A l.length c, .int .i64 i, .int .i64 s] w fun e w' => e = .returned (.tuple #[.int .u64 (get l i s).1, .int .i64 (get l i s).2]) ∧ w = w' := by
  have hm := Kd.C_max h
  unfold get
  split
  · rename_i hno
    exact get_no A c l.length l i s w h hc hm hno
  · rename_i hno
    have hf : fits s = true := by
      rcases Bool.eq_false_or_eq_true (fits s) with h | h
      · exact h
      · exact absurd (.inl h) hno
    have h1 : ¬ i < 0 := fun h => hno (.inr (.inl h))
    have h2 : ¬ (l.length : Int) < i := fun h => hno (.inr (.inr h))
    split
    · exact get_short A c l.length l i s w h hc hm hf (by omega) (by omega) (by omega)
    · have hs := fits_cases hf
      obtain ⟨ad, rfl, _⟩ := h.2.2 (show 0 < l.length by omega)
      obtain ⟨i, rfl⟩ := Int.eq_ofNat_of_zero_le (show 0 ≤ i by omega)
      obtain ⟨s, rfl⟩ := Int.eq_ofNat_of_zero_le (show 0 ≤ s by omega)
      exact get_yes ad c l.length l i s w h hc hm hb hf (by omega) (by omega)

theorem rsize_calls (n : Int) {b : Bool} (h : fits n = b) (w : World) :
    Calls Try.prog 67 #[.int .i64 n] w fun e w' => e = .returned (.bool b) ∧ w = w' := by
  subst h
  go_enter Try.func67, Try.ntmps67
  go_wp2
  all_goals
    go_ret
    exact ⟨ret_b (by unfold fits; simp [*]), rfl⟩

set_option maxRecDepth 100000 in
theorem copy_calls (A : Option Addr) (c : Nat) (l : List Int) (w : World) (h : Kd.C (Kd.int .u8) w A l.length l) (hl : l.length ≤ 140737488355328) :
    Calls Try.prog 35 #[.slice A l.length c] w fun e w' => ∃ v, e = .returned v ∧ Kd.R (Kd.int .u8) 5 w' w.heap.size (fun _ => True) v l ∧ Below w.heap.size w w' := by
  have HR := Lib.hid h
  have HL : (([] : List Int).length + l.length) * 1 ≤ 140737488355328 := by simpa using hl
  have HL := Lib.hid HL
  clear h hl
  go_enter Try.func35, Try.ntmps35
  go_wp2_with (first | ((with_reducible refine gate_builtin (b := .append) (xs := #[.tmp 4, .tmp 5]) rfl ?_); at_builtin; refine Kd.R_append_rows (Kd.int .u8) (w0 := w) w.heap.size rfl (.tmp 4) (.tmp 5) 60 5 (.int .u8 0) 1 rfl Try.underlying60 info_u8 rfl (by decide) (by omega) (.slice none 0 0) ([] : List Int) l _ _ _ (fun _ => True) (fun _ => False) rfl rfl (Kd.R_nil _ _ _ _ (fun _ => True)) HR.out (fun _ _ h => h) (fun _ h => h.elim) (fun _ _ => trivial) (Below.refl _ _) (Nat.le_refl _) HL.out ?_; intro v1 w1 ho hb hg hat; clear hg hat))
  go_ret
  exact ⟨_, rfl, ho, hb⟩

set_option maxRecDepth 100000 in
theorem wide_calls (A : Option Addr) (c : Nat) (l : List Int) (w : World) (h : Kd.C (Kd.int .u8) w A l.length l) (hl : l.length ≤ 140737488351232) :
    Calls Try.prog 28 #[.slice A l.length c] w fun e w' => ∃ A' c', e = .returned (.slice A' l.length c') ∧ l.length + 3 ≤ c' ∧ Kd.C (Kd.int .u8) w' A' (l ++ [9, 9, 9]).length (l ++ [9, 9, 9]) ∧ Below w.heap.size w w' := by
  have K := Lib.hid (copy_calls A c l w h (by omega))
  have HL : (l.length + 3) * 1 ≤ 140737488355328 := by omega
  have HL := Lib.hid HL
  clear h hl
  go_enter Try.func28, Try.ntmps28
  go_wp2_with (first
    | (go_at_call 35; refine K.out.mono ?_; rintro e w1 ⟨v, rfl, hr, hb⟩; have HO := Lib.hid hr; have HB := Lib.hid hb; clear hr hb)
    | ((with_reducible refine gate_builtin (b := .append) (xs := #[.tmp 6, .tmp 7]) rfl ?_); at_builtin; refine Kd.R_append_rows (Kd.int .u8) (w0 := w) w.heap.size rfl (.tmp 6) (.tmp 7) 60 5 (.int .u8 0) 1 rfl Try.underlying60 info_u8 rfl (by decide) (by omega) v l [9, 9, 9] _ _ _ (fun _ => True) (fun _ => False) rfl rfl (Kd.R_alloc HO.out _) (lit_reads w1 [9, 9, 9] (by decide)) (fun _ _ h => h) (fun _ h => h.elim) (fun _ _ => trivial) (HB.out.alloc HB.out.size _) (HB.out.alloc HB.out.size _).size HL.out ?_; intro v1 w2 ho hb hg hat; clear hg hat; obtain ⟨A', c', rfl, hc, hr⟩ := Kd.R_reads ho; have HC := Lib.hid hc; have HR := Lib.hid hr; have HB2 := Lib.hid hb; rw [List.length_append] at hc; simp only [List.length_cons, List.length_nil, Nat.reduceAdd, Nat.zero_add] at hc; clear ho hr hb))
  go_ret
  exact ⟨_, _, rfl, hc, HR.out, HB2.out⟩

/-- What is behind the last byte is as it was. -/
theorem left_calls (A A1 : Option Addr) (c c1 : Nat) (l : List Int) (w : World) (h : Kd.C (Kd.int .u8) w A (l ++ [9, 9, 9]).length (l ++ [9, 9, 9])) (hc : l.length + 3 ≤ c) (h1 : Kd.C (Kd.int .u8) w A1 l.length l) (hb : Bytes l) :
    Calls Try.prog 34 #[.slice A l.length c, .slice A1 l.length c1] w fun e w' => e = .returned (.bool true) ∧ w = w' := by
  have hn : (l ++ [9, 9, 9]).length = l.length + 3 := by simp
  have ht := Kd.C_take (m := l.length) h (by omega)
  rw [List.take_left] at ht
  have K := same_calls A A1 l.length l.length c c1 l l w ht h1 hb hb
  rw [decide_eq_true rfl] at K
  have K := Lib.hid K
  obtain ⟨ad, rfl, _⟩ := h.2.2 (show 0 < (l ++ [9, 9, 9]).length by omega)
  have hcell : ∀ k : Nat, k < 3 → w.cell? (ad.add (l.length + k)) = some (.int .u8 9) := by
    intro k hk
    obtain ⟨ad', cs, he, h3, h4, h5⟩ := Kd.C_get h 0 ((l.length + k : Nat) : Int) (by omega) (by omega)
    obtain rfl := Option.some.inj he
    have hx : (l ++ [9, 9, 9]).getD ((l.length + k : Nat) : Int).toNat 0 = 9 := by
      rw [Int.toNat_natCast, List.getD_eq_getElem?_getD, List.getElem?_append_right (by omega), Nat.add_sub_cancel_left]
      have : k = 0 ∨ k = 1 ∨ k = 2 := by omega
      rcases this with rfl | rfl | rfl <;> rfl
    rw [hx] at h4
    obtain rfl : cs = [.int .u8 9] := h4
    have h6 : w.cell? (ad.add ((l.length + k) * 1 + 0)) = some (.int .u8 9) := h5 0 _ rfl
    rw [Nat.mul_one, Nat.add_zero] at h6
    exact h6
  have c0 := hcell 0 (by omega)
  have c1 := hcell 1 (by omega)
  have c2 := hcell 2 (by omega)
  rw [Nat.add_zero] at c0
  have hmx := Kd.C_max h
  rw [hn] at hmx
  clear hcell ht h h1 hn hb
  obtain ⟨m, hm⟩ : ∃ m, l.length = m := ⟨_, rfl⟩
  rw [hm] at K c0 c1 c2 hmx hc ⊢
  clear hm
  have d1 : w.cell? { block := ad.block, off := ad.off + (m + 1) } = some (.int .u8 9) := by rw [Addr.add, if_neg (by omega)] at c1; exact c1
  have d2 : w.cell? { block := ad.block, off := ad.off + (m + 2) } = some (.int .u8 9) := by rw [Addr.add, if_neg (by omega)] at c2; exact c2
  go_enter Try.func34, Try.ntmps34
  go_wp2_with (first | (go_at_call 33; refine K.out.mono ?_; rintro e w' ⟨rfl, rfl⟩))
  all_goals first | (exfalso; omega) | (go_ret; exact ⟨rfl, rfl⟩)

/-- The document's Get. -/
theorem rget_no (A : Option Addr) (c m : Nat) (i s : Int) (w : World) (hm : m ≤ 9223372036854775807) (hno : fits s = false ∨ i < 0 ∨ (m : Int) < i) :
    Calls Try.prog 32 #[.slice A m c, .int .i64 i, .int .i64 s] w fun e w' => e = .returned (.tuple #[.int .u64 0, .int .i64 2]) ∧ w = w' := by
  by_cases hf : fits s = true
  · have F := Lib.hid hf
    have hno2 : i < 0 ∨ (m : Int) < i := by rcases hno with h | h | h; { rw [hf] at h; cases h }; { exact .inl h }; exact .inr h
    clear hno hf
    rcases Int.lt_or_le i 0 with h1 | h1
    all_goals
      go_enter Try.func32, Try.ntmps32
      go_wp2_with (first | (go_at_call 67; refine (rsize_calls _ F.out _).mono ?_; rintro e w' ⟨rfl, rfl⟩))
    all_goals first | (exfalso; omega) | (go_ret2; exact ⟨rfl, rfl⟩)
  · have F := Lib.hid (Bool.eq_false_iff.2 hf)
    clear hf hno
    go_enter Try.func32, Try.ntmps32
    go_wp2_with (first | (go_at_call 67; refine (rsize_calls _ F.out _).mono ?_; rintro e w' ⟨rfl, rfl⟩))
    all_goals first | (exfalso; omega) | (go_ret2; exact ⟨rfl, rfl⟩)
set_option maxRecDepth 100000 in
theorem rget_short (A : Option Addr) (c m : Nat) (i s : Int) (w : World) (hm : m ≤ 9223372036854775807) (hf : fits s = true) (h0 : 0 ≤ i) (h1 : i ≤ m) (h2 : m - i < s) :
    Calls Try.prog 32 #[.slice A m c, .int .i64 i, .int .i64 s] w fun e w' => e = .returned (.tuple #[.int .u64 0, .int .i64 4]) ∧ w = w' := by
  have F := Lib.hid hf
  clear hf
  go_enter Try.func32, Try.ntmps32
  go_wp2_with (first | (go_at_call 67; refine (rsize_calls _ F.out _).mono ?_; rintro e w' ⟨rfl, rfl⟩))
  all_goals first | (exfalso; omega) | (go_ret2; exact ⟨rfl, rfl⟩)

theorem valLE_drop {ys : List Int} {j : Nat} (h : j < ys.length) : valLE (ys.drop j) = ys[j] + 256 * valLE (ys.drop (j + 1)) := by
  rw [List.drop_eq_getElem_cons h, valLE]
theorem rget_step {ys : List Int} (hb : Bytes ys) (h8 : ys.length ≤ 8) {k : Nat} (hk : k < ys.length) {x : Int} (hx : ys.getD k 0 = x) :
    0 ≤ 256 * valLE (ys.drop (k + 1)) ∧ 256 * valLE (ys.drop (k + 1)) < 18446744073709551616 ∧ 0 ≤ x ∧ x ≤ 255 ∧ 256 * valLE (ys.drop (k + 1)) + x < 18446744073709551616 ∧ 256 * valLE (ys.drop (k + 1)) + x = valLE (ys.drop k) := by
  have hxe : ys[k] = x := by rw [← hx]; simp [List.getD, hk]
  have hx1 : 0 ≤ x ∧ x ≤ 255 := by rw [← hxe]; exact hb _ (List.getElem_mem hk)
  have hv := valLE_bd (a := ys.drop (k + 1)) (fun x hx => hb x (List.mem_of_mem_drop hx))
  have hw := valLE_bd (a := ys.drop k) (fun x hx => hb x (List.mem_of_mem_drop hx))
  rw [List.length_drop] at hv hw
  have e := valLE_drop hk
  rw [hxe] at e
  have hp : ∀ j : Nat, j ≤ 8 → (256 : Int) ^ j ≤ 18446744073709551616 := by
    intro j hj
    have : j = 0 ∨ j = 1 ∨ j = 2 ∨ j = 3 ∨ j = 4 ∨ j = 5 ∨ j = 6 ∨ j = 7 ∨ j = 8 := by omega
    rcases this with rfl | rfl | rfl | rfl | rfl | rfl | rfl | rfl | rfl <;> decide
  have h2 := hp (ys.length - k) (by omega)
  omega
set_option maxRecDepth 100000 in
theorem rget_yes (a : Addr) (c m : Nat) (l : List Int) (i s : Nat) (w : World) (h : Kd.C (Kd.int .u8) w (some a) m l) (hm : m ≤ 9223372036854775807) (hb : Bytes l) (hf : fits s = true) (h1 : i ≤ m) (h2 : s ≤ m - i) :
    Calls Try.prog 32 #[.slice (some a) m c, .int .i64 i, .int .i64 s] w fun e w' => e = .returned (.tuple #[.int .u64 (valLE ((l.drop i).take s)), .int .i64 0]) ∧ w = w' := by
  have F := Lib.hid hf
  have hs := fits_cases hf
  have s1 : 1 ≤ s := by omega
  have s2 : s ≤ 8 := by omega
  have hl := h.1
  have hlen : ((l.drop i).take s).length = s := by rw [List.length_take, List.length_drop]; omega
  have hyb : Bytes ((l.drop i).take s) := fun x hx => hb x (List.mem_of_mem_drop (List.mem_of_mem_take hx))
  have hcell : ∀ k : Nat, k < s → w.cell? (a.add (i + k)) = some (.int .u8 (((l.drop i).take s).getD k 0)) := by
    intro k hk
    obtain ⟨ad, cs, he, h3, h4, h5⟩ := Kd.C_get h 0 ((i + k : Nat) : Int) (by omega) (by omega)
    obtain rfl := Option.some.inj he
    have hx : l.getD ((i + k : Nat) : Int).toNat 0 = ((l.drop i).take s).getD k 0 := by
      rw [Int.toNat_natCast, List.getD_eq_getElem?_getD, List.getD_eq_getElem?_getD, List.getElem?_take, if_pos hk, List.getElem?_drop]
    rw [hx] at h4
    obtain rfl : cs = [.int .u8 (((l.drop i).take s).getD k 0)] := h4
    have h6 : w.cell? (a.add ((i + k) * 1 + 0)) = some (.int .u8 (((l.drop i).take s).getD k 0)) := h5 0 _ rfl
    rw [Nat.mul_one, Nat.add_zero] at h6
    exact h6
  obtain ⟨ys, hys⟩ : ∃ ys, (l.drop i).take s = ys := ⟨_, rfl⟩
  rw [hys] at hcell hlen hyb ⊢
  have HC := Lib.hid hcell
  have HY := Lib.hid (And.intro hyb hlen)
  clear hf h hs hlen hys hyb hcell hb hl
  clear l
  go_enter Try.func32, Try.ntmps32
  go_wp2_with (first | (go_at_call 67; refine (rsize_calls _ F.out _).mono ?_; rintro e w' ⟨rfl, rfl⟩))
  go_loopw [8, 9] (fun v8 v9 wr => ∃ k : Nat, k ≤ s ∧ v9 = .int .i64 ((i : Int) + k - 1) ∧ v8 = .int .u64 (valLE (ys.drop k)) ∧ wr = w) (fun _ v9 _ => (intOf v9 + 1 - i).toNat)
  case atStart => exact ⟨s, by omega, rfl, by rw [List.drop_eq_nil_of_le (by rw [HY.out.2]; omega)]; rfl, rfl⟩
  case round =>
    obtain ⟨k, hk, rfl, rfl, rfl⟩ := hrel
    rcases Nat.eq_zero_or_pos k with h0 | h0
    · subst h0
      go_wp2
      all_goals first | (exfalso; omega) | (go_ret2; exact ⟨rfl, rfl⟩)
    · obtain ⟨k, rfl⟩ : ∃ j, k = j + 1 := ⟨k - 1, by omega⟩
      have hc1 := HC.out k (by omega)
      obtain ⟨x, hx⟩ : ∃ x, ys.getD k 0 = x := ⟨_, rfl⟩
      rw [hx] at hc1
      have G := rget_step HY.out.1 (by rw [HY.out.2]; exact s2) (by rw [HY.out.2]; omega) hx
      obtain ⟨v, hv⟩ : ∃ v, valLE (ys.drop (k + 1)) = v := ⟨_, rfl⟩
      rw [hv] at G ⊢
      obtain ⟨u, hu⟩ : ∃ u, valLE (ys.drop k) = u := ⟨_, rfl⟩
      rw [hu] at G
      obtain ⟨g1, g2, g3, g4, g5, g6⟩ := G
      have HU := Lib.hid (And.intro hu g6)
      clear hv hu hx g6
      go_wp2
      refine ⟨⟨k, by omega, congrArg (Value.int .i64) (by omega), ?_, trivial⟩, by simp only [intOf]; omega⟩
      rw [HU.out.2, HU.out.1]

theorem rget_calls (A : Option Addr) (c : Nat) (l : List Int) (i s : Int) (w : World) (h : Kd.C (Kd.int .u8) w A l.length l) (hb : Bytes l) :
    Calls Try.prog 32 #[.slice A l.length c, .int .i64 i, .int .i64 s] w fun e w' => e = .returned (.tuple #[.int .u64 (get l i s).1, .int .i64 (get l i s).2]) ∧ w = w' := by
  have hm := Kd.C_max h
  unfold get
  split
  · rename_i hno
    exact rget_no A c l.length i s w hm hno
  · rename_i hno
    have hf : fits s = true := by
      rcases Bool.eq_false_or_eq_true (fits s) with h | h
      · exact h
      · exact absurd (.inl h) hno
    have h1 : ¬ i < 0 := fun h => hno (.inr (.inl h))
    have h2 : ¬ (l.length : Int) < i := fun h => hno (.inr (.inr h))
    split
    · exact rget_short A c l.length i s w hm hf (by omega) (by omega) (by omega)
    · have hs := fits_cases hf
      obtain ⟨ad, rfl, _⟩ := h.2.2 (show 0 < l.length by omega)
      obtain ⟨i, rfl⟩ := Int.eq_ofNat_of_zero_le (show 0 ≤ i by omega)
      obtain ⟨s, rfl⟩ := Int.eq_ofNat_of_zero_le (show 0 ≤ s by omega)
      exact rget_yes ad c l.length l i s w h hm hb hf (by omega) (by omega)

def putE (n size : Int) : Int := if putOk n size then 0 else 2
def putL (n size : Int) : List Int := if putOk n size then bytesLE n size.toNat else []
set_option maxRecDepth 100000 in
theorem rput_calls (n size : Int) (h0 : 0 ≤ n) (h1 : n ≤ 18446744073709551615) (w : World) :
    Calls Try.prog 30 #[.int .u64 n, .int .i64 size] w fun e w' =>
      ∃ v, e = .returned (.tuple #[v, .int .i64 (putE n size)]) ∧ Kd.R (Kd.int .u8) 5 w' w.heap.size (fun _ => True) v (putL n size) ∧ Below w.heap.size w w' := by
  by_cases hf : fits size = true
  · have F := Lib.hid hf
    have hs := fits_cases hf
    obtain ⟨s, rfl⟩ := Int.eq_ofNat_of_zero_le (show 0 ≤ size by omega)
    have hs1 : 1 ≤ s := by omega
    have hs2 : s ≤ 8 := by omega
    have HP : putOk n (s : Int) = decide (n < 256 ^ s) := by unfold putOk; rw [hf, Int.toNat_natCast, Bool.true_and]
    have HP := Lib.hid HP
    clear hf hs
    go_enter Try.func30, Try.ntmps30
    go_wp2_with (first | (go_at_call 67; refine (rsize_calls _ F.out _).mono ?_; rintro e w' ⟨rfl, rfl⟩))
    go_loopw [0, 6, 7] (fun v0 v6 v7 wr => ∃ (i : Nat) (q : Int), i ≤ s ∧ 0 ≤ q ∧ q ≤ 18446744073709551615 ∧ v7 = .int .i64 i ∧ v0 = .int .u64 q ∧ Hid (q = n / 256 ^ i) ∧ Hid (Kd.R (Kd.int .u8) 5 wr w.heap.size (fun _ => True) v6 (bytesLE n i)) ∧ Hid (Below w.heap.size w wr)) (fun _ _ v7 _ => s - (intOf v7).toNat)
    case atStart => exact ⟨0, n, by omega, h0, h1, rfl, rfl, Lib.hid (by simp), Lib.hid (Kd.R_nil _ _ _ _ _), Lib.hid (Below.refl _ _)⟩
    case round =>
      obtain ⟨i, q, hi, hq0, hq1, rfl, rfl, HQ, HO, HB⟩ := hrel
      by_cases hlt : i < s
      · have HL : ((bytesLE n i).length + 1) * 1 ≤ 140737488355328 := by rw [bytesLE_length]; omega
        have HL := Lib.hid HL
        go_wp2_with (first | ((with_reducible refine gate_builtin (b := .append) (xs := #[.tmp 16, .tmp 20]) rfl ?_); at_builtin; refine Kd.R_append (Kd.int .u8) (w0 := w) w.heap.size rfl (.tmp 16) (.tmp 20) 60 5 (.int .u8 0) 1 rfl Try.underlying60 info_u8 rfl (by decide) (by omega) u6 (bytesLE n i) _ [.int .u8 _] (fun _ => True) (fun _ => False) rfl rfl rfl (fun _ hk => hk.elim) (fun _ _ => trivial) HO.out HB.out HB.out.size HL.out ?_; intro v1 w1 ho hb hg hat; clear hg hat; have HO1 := Lib.hid ho; have HB1 := Lib.hid hb; clear ho hb))
        refine ⟨⟨i + 1, q / 256, by omega, by omega, by omega, by go_num, rfl, Lib.hid ?_, Lib.hid ?_, HB1⟩, by simp [intOf]; omega⟩
        · rw [HQ.out, Int.pow_succ]
          exact Int.ediv_ediv_of_nonneg (Int.pow_nonneg (by omega))
        · rw [bytesLE_succ, ← HQ.out]; exact HO1.out
      · have : i = s := by omega
        subst this
        by_cases hz : 0 < q
        · have hp : putOk n (i : Int) = false := by
            rw [HP.out]
            refine decide_eq_false fun hn => ?_
            have := Int.ediv_eq_zero_of_lt h0 hn
            rw [← HQ.out] at this
            omega
          have HP2 := Lib.hid hp
          clear hp HP
          go_wp2
          go_ret2
          exact ⟨_, by rw [putE, HP2.out]; rfl, by rw [putL, HP2.out]; exact Kd.R_nil _ _ _ _ _, HB.out⟩
        · have hp : putOk n (i : Int) = true := by
            rw [HP.out]
            refine decide_eq_true ?_
            rcases Int.lt_or_le n (256 ^ i) with h | h
            · exact h
            · have := Int.le_ediv_of_mul_le (a := 1) (b := n) (c := 256 ^ i) (Int.pow_pos (by omega)) (by omega)
              rw [← HQ.out] at this
              omega
          have HP2 := Lib.hid hp
          clear hp HP
          go_wp2
          go_ret2
          exact ⟨_, by rw [putE, HP2.out]; rfl, by rw [putL, HP2.out, Int.toNat_natCast]; exact HO.out, HB.out⟩
  · have hp : putOk n size = false := by unfold putOk; rw [Bool.eq_false_iff.2 hf]; rfl
    have F := Lib.hid (Bool.eq_false_iff.2 hf)
    have HP2 := Lib.hid hp
    clear hp hf
    go_enter Try.func30, Try.ntmps30
    go_wp2_with (first | (go_at_call 67; refine (rsize_calls _ F.out _).mono ?_; rintro e w' ⟨rfl, rfl⟩))
    go_ret2
    exact ⟨_, by rw [putE, HP2.out]; rfl, by rw [putL, HP2.out]; exact Kd.R_nil _ _ _ _ _, Below.refl _ _⟩
end Go.Proofs.Ytodplmpjmbncdaa.H
