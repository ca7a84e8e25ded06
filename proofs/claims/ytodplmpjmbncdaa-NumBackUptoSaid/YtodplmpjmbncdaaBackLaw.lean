/- The walk of the statement NumBack, where what is handed in is not too long; and how long it is. -/
import Derived.Test.YtodplmpjmbncdaaBytesLaw
import Derived.Test.YtodplmpjmbncdaaRows
namespace Go.Proofs.Ytodplmpjmbncdaa.H
open Go.RowKit Go.Proofs.YtodplmpjmbncdaaW.PrintWords Go.Proofs.YtodplmpjmbncdaaW.PrintLast Go.Proofs.YtodplmpjmbncdaaW.PrintMore
set_option linter.unusedVariables false
set_option linter.unusedSimpArgs false

theorem bulk_pos {H : Type} (d : DataW H) : 1 ≤ Rows.uptoBulk d := by
  cases d with
  | lit l => cases l <;> simp [Rows.uptoBulk]
  | _ => simp [Rows.uptoBulk]
theorem bulk_len {H : Type} (l : List (DataW H)) : l.length ≤ Rows.uptoBulkAll l := by
  induction l with
  | nil => simp [Rows.uptoBulkAll]
  | cons d l ih => have := bulk_pos d; simp only [Rows.uptoBulkAll, List.length_cons]; omega
theorem bulk_mem {H : Type} {l : List (DataW H)} {d : DataW H} (h : d ∈ l) : Rows.uptoBulk d ≤ Rows.uptoBulkAll l := by
  induction l with
  | nil => cases h
  | cons x l ih =>
    simp only [Rows.uptoBulkAll]
    rcases List.mem_cons.1 h with rfl | h
    · omega
    · have := ih h; omega
/-- A slice is no longer than its bulk. -/
theorem slice_bulk {H : Type} {P : Program} {enc : TypeId × Value → H} {w : World} {base : Nat} {sp : Nat → Bool} {held : Bool} {fuel : Nat} {t e : TypeId} {A : Option Addr} {n c : Nat} {x : DataW H × List MemPlace}
    (ht : P.underlying t = some (.slice e)) (h : DataW.trod enc P w base sp held fuel t [.slice A n c] = some x) : n ≤ Rows.uptoBulk x.1 := by
  rcases Go.Deep.open_slice ht h with ⟨h1, rfl⟩ | ⟨a, len, cap, m, k, D, Pl, h1, _, hl, hm, hmm, rfl, hx⟩
  · simp only [List.cons.injEq, Value.slice.injEq, and_true] at h1
    omega
  · simp only [List.cons.injEq, Value.slice.injEq, and_true] at h1
    have := bulk_len ((List.range len).map D)
    rw [List.length_map, List.length_range] at this
    simp only [Rows.uptoBulk]
    omega

theorem pow_cases {k : Int} (h0 : 0 ≤ k) (h1 : k ≤ 255) : ∃ s : Nat, wrap64 ((2 : Int) ^ (k % 4).toNat) = (s : Int) ∧ (s = 1 ∨ s = 2 ∨ s = 4 ∨ s = 8) := by
  have : k % 4 = 0 ∨ k % 4 = 1 ∨ k % 4 = 2 ∨ k % 4 = 3 := by omega
  rcases this with h | h | h | h <;> rw [h]
  · exact ⟨1, by rw [show (2 : Int) ^ Int.toNat 0 = 1 by decide, w64 (by omega) (by omega)]; rfl, by omega⟩
  · exact ⟨2, by rw [show (2 : Int) ^ Int.toNat 1 = 2 by decide, w64 (by omega) (by omega)]; rfl, by omega⟩
  · exact ⟨4, by rw [show (2 : Int) ^ Int.toNat 2 = 4 by decide, w64 (by omega) (by omega)]; rfl, by omega⟩
  · exact ⟨8, by rw [show (2 : Int) ^ Int.toNat 3 = 8 by decide, w64 (by omega) (by omega)]; rfl, by omega⟩
theorem get_mid (l m : List Int) (n : Int) (s : Nat) (h0 : 0 ≤ n) (hn : n < 256 ^ s) (hf : fits s = true) : get (l ++ bytesLE n s ++ m) l.length s = (n, 0) := by
  have hl : (l ++ bytesLE n s ++ m).length = l.length + s + m.length := by rw [List.length_append, List.length_append, bytesLE_length]
  unfold get
  rw [hl, if_neg (by rw [hf]; simp; omega), if_neg (by omega), Int.toNat_natCast, Int.toNat_natCast, List.append_assoc, List.drop_left, List.take_left' (bytesLE_length n s), valLE_bytes n h0 s hn]

set_option maxHeartbeats 1000000 in
set_option maxRecDepth 100000 in
theorem back_no {n k : Int} {s : Nat} {v2 v3 : Value} (w : World) (k0 : 0 ≤ k) (k1 : k ≤ 255) (hs : wrap64 ((2 : Int) ^ (k % 4).toNat) = (s : Int)) (h0 : 0 ≤ n) (h1 : n ≤ 18446744073709551615) (hp : putOk n (s : Int) = false) (hc : s = 1 ∨ s = 2 ∨ s = 4 ∨ s = 8) :
    Calls Try.prog 10 #[.int .u64 n, .int .u8 k, v2, v3] w fun e w' => e = .returned (.bool true) ∧ Below w.heap.size w w' := by
  have K := Lib.hid (put_no n s h0 h1 hp w)
  have hq : s < 8 ∧ ¬ n < 256 ^ s := by
    unfold putOk at hp
    rw [Int.toNat_natCast] at hp
    rcases hc with rfl | rfl | rfl | rfl
    · simp [fits] at hp ⊢; omega
    · simp [fits] at hp ⊢; omega
    · simp [fits] at hp ⊢; omega
    · simp [fits] at hp; omega
  obtain ⟨q1, q2⟩ := hq
  have hz : 0 < n / 2 ^ (8 * s) := by
    rw [Int.pow_mul, show (2 : Int) ^ 8 = 256 from rfl]
    have := Int.le_ediv_of_mul_le (a := 1) (b := n) (c := 256 ^ s) (Int.pow_pos (by omega)) (by omega)
    omega
  have q3 : (s : Int) < 8 := by omega
  have HS := Lib.hid hs
  clear hp hs q2
  go_enter Try.func10, Try.ntmps10
  go_wp2_with (first
    | (go_at_call 29; rw [HS.out]; refine K.out.mono ?_; rintro e w' ⟨rfl, rfl⟩)
    | (go_at_call 16; refine (lives01 _).mono ?_; rintro e w4 ⟨rfl, hb4⟩; have HB4 := Lib.hid hb4; clear hb4))
  all_goals trace_state
  all_goals first | (exfalso; omega) | (go_ret; exact ⟨rfl, HB4.out⟩)

set_option maxHeartbeats 1000000 in
set_option maxRecDepth 100000 in
theorem back_yes {n k : Int} {s : Nat} {A B : Option Addr} {c d : Nat} {l m : List Int} (w : World) (k0 : 0 ≤ k) (k1 : k ≤ 255) (hs : wrap64 ((2 : Int) ^ (k % 4).toNat) = (s : Int)) (h0 : 0 ≤ n) (h1 : n ≤ 18446744073709551615) (hp : putOk n (s : Int) = true) (hc : s = 1 ∨ s = 2 ∨ s = 4 ∨ s = 8)
    (hC : Kd.C (Kd.int .u8) w A l.length l) (hD : Kd.C (Kd.int .u8) w B m.length m) (bl : Bytes l) (bm : Bytes m) (sl : l.length ≤ 1048576) (sm : m.length ≤ 1048576) :
    Calls Try.prog 10 #[.int .u64 n, .int .u8 k, .slice A l.length c, .slice B m.length d] w fun e w' => e = .returned (.bool true) ∧ Below w.heap.size w w' := by
  have K1 := put_yes n s h0 h1 hp w
  have hf : fits (s : Int) = true := by rcases hc with rfl | rfl | rfl | rfl <;> decide
  have hn : n < 256 ^ s := by
    unfold putOk at hp
    rw [hf, Int.toNat_natCast] at hp
    simpa using hp
  have hg := get_mid l m n s h0 hn hf
  rw [Int.toNat_natCast] at K1
  have hxl := bytesLE_length n s
  have hxb := bytesLE_bytes n s
  obtain ⟨X, hX⟩ : ∃ X, bytesLE n s = X := ⟨_, rfl⟩
  rw [hX] at K1 hg hxl hxb
  have HXL := Lib.hid hxl
  have K1 := Lib.hid K1
  have HL1 : (l.length + s) * 1 ≤ 140737488355328 := by omega
  have HL2 : ((l ++ X).length + m.length) * 1 ≤ 140737488355328 := by rw [List.length_append]; omega
  obtain ⟨Y, hY⟩ : ∃ Y, l ++ X = Y := ⟨_, rfl⟩
  have hall : Bytes (l ++ X ++ m) := by
    intro x hx
    rcases List.mem_append.1 hx with hx | hx
    · rcases List.mem_append.1 hx with hx | hx
      · exact bl x hx
      · exact hxb x hx
    · exact bm x hx
  obtain ⟨Z, hZ⟩ : ∃ Z, Y ++ m = Z := ⟨_, rfl⟩
  rw [hY] at HL2 hall hg
  rw [hZ] at hall hg
  have HG := Lib.hid hg
  have HL1 := Lib.hid HL1
  have HL2 := Lib.hid HL2
  have HY := Lib.hid hY
  have HZ := Lib.hid hZ
  have HA := Lib.hid hall
  have K2 := Lib.hid (fun w' h => copy_calls A c l w' h (by omega))
  have HC := Lib.hid hC
  have HD := Lib.hid hD
  have HS := Lib.hid hs
  clear hp hs hX hn hf hg hxl hxb hall bl bm hC hD hY hZ
  go_enter Try.func10, Try.ntmps10
  go_wp2_with (first
    | (go_at_call 29; rw [HS.out]; refine K1.out.mono ?_; rintro e w1 ⟨v1, rfl, hr1, hb1⟩; obtain ⟨A1, c1, rfl, hc1, hr1⟩ := Kd.R_reads hr1; rw [HXL.out] at hr1 ⊢; have HB1 := Lib.hid hb1; have HR1 := Lib.hid hr1; clear hr1 hb1 hc1)
    | (go_at_call 35; refine (K2.out _ (Kd.C_below HC.out HB1.out)).mono ?_; rintro e w2 ⟨v2, rfl, hr2, hb2⟩; have HB2 := Lib.hid (below_step HB1.out hb2); have HR1' := Lib.hid (Kd.C_below HR1.out hb2); have HO2 := Lib.hid (Kd.R_lower hr2 HB1.out.size); clear hr2 hb2)
    | ((with_reducible refine gate_builtin (b := .append) (xs := #[.tmp 40, .tmp 41]) rfl ?_); at_builtin; refine Kd.R_append_rows (Kd.int .u8) (w0 := w) w.heap.size rfl (.tmp 40) (.tmp 41) 60 5 (.int .u8 0) 1 rfl Try.underlying60 info_u8 rfl (by decide) (by omega) v2 l X _ _ _ (fun _ => True) (fun _ => False) rfl rfl HO2.out HR1'.out (fun _ _ h => h) (fun _ h => h.elim) (fun _ _ => trivial) HB2.out HB2.out.size HL1.out ?_; intro v3 w3 ho hb hg hat; clear hg hat; rw [HY.out] at ho; have HO3 := Lib.hid ho; have HB3 := Lib.hid hb; clear ho hb)
    | ((with_reducible refine gate_builtin (b := .append) (xs := #[.tmp 43, .tmp 44]) rfl ?_); at_builtin; refine Kd.R_append_rows (Kd.int .u8) (w0 := w) w.heap.size rfl (.tmp 43) (.tmp 44) 60 5 (.int .u8 0) 1 rfl Try.underlying60 info_u8 rfl (by decide) (by omega) v3 Y m _ _ _ (fun _ => True) (fun _ => False) rfl rfl HO3.out (Kd.C_below HD.out HB3.out) (fun _ _ h => h) (fun _ h => h.elim) (fun _ _ => trivial) HB3.out HB3.out.size HL2.out ?_; intro v4 w4 ho hb hg hat; clear hg hat; rw [HZ.out] at ho; obtain ⟨A4, c4, rfl, hc4, hr4⟩ := Kd.R_reads ho; have HR4 := Lib.hid hr4; have HC4 := Lib.hid hc4; have HB4 := Lib.hid hb; clear ho hb hr4 hc4)
    | (go_at_call 31; have K4 := get_calls A4 c4 Z l.length s w4 HR4.out HC4.out HA.out; rw [HG.out] at K4; refine K4.mono ?_; clear K4; rintro e w' ⟨rfl, rfl⟩)
    | (go_at_call 16; refine (lives01 _).mono ?_; rintro e w5 ⟨rfl, hb5⟩; have HB5 := Lib.hid hb5; clear hb5))
  all_goals trace_state
  go_ret
  exact ⟨rfl, below_step HB4.out HB5.out⟩

theorem numBack_walk {n k : Int} {A B : Option Addr} {c d : Nat} {l m : List Int} (w : World) (wn : (Lit.int .u64 n).wf = true) (wk : (Lit.int .u8 k).wf = true)
    (hC : Kd.C (Kd.int .u8) w A l.length l) (hl : l.length ≤ c) (hw : l.length ≤ 9223372036854775807 ∧ l.length * 1 ≤ 140737488351232 ∧ ∀ x ∈ l, (Lit.int .u8 x).wf = true)
    (hD : Kd.C (Kd.int .u8) w B m.length m) (hm : m.length ≤ d) (hw2 : m.length ≤ 9223372036854775807 ∧ m.length * 1 ≤ 140737488351232 ∧ ∀ x ∈ m, (Lit.int .u8 x).wf = true)
    (sl : l.length ≤ 1048576) (sm : m.length ≤ 1048576) :
    Calls Try.prog 10 #[.int .u64 n, .int .u8 k, .slice A l.length c, .slice B m.length d] w fun e w' => e = .returned (.bool true) ∧ Below w.heap.size w w' := by
  have k0 := bd_u8 wk
  have n0 := bd_u64 wn
  obtain ⟨s, hs, hc⟩ := pow_cases (by omega) (show k ≤ 255 by omega)
  rcases Bool.eq_false_or_eq_true (putOk n (s : Int)) with h | h
  · exact back_yes w k0.1 k0.2 hs n0.1 n0.2 h hc hC hD (fun x hx => bd_u8 (hw.2.2 x hx)) (fun x hx => bd_u8 (hw2.2.2 x hx)) sl sm
  · exact back_no w k0.1 k0.2 hs n0.1 n0.2 h hc
end Go.Proofs.Ytodplmpjmbncdaa.H
