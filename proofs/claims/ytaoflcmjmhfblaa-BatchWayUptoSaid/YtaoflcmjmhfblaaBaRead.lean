/- batch.reader: take, number. -/
import Derived.Test.YtaoflcmjmhfblaaBaPut2
import Derived.Laws.Slices
namespace Go.Proofs.Ytaoflcmjmhfblaa.D
open Go.RowKit Go.Proofs.YtaoflcmjmhfblaaW.PrintWords Go.Proofs.YtaoflcmjmhfblaaW.PrintLast Go.Proofs.YtaoflcmjmhfblaaW.PrintMore Go.Proofs.Ytaoflcmjmhfblaa.H Go.Shelf
set_option linter.unusedVariables false
set_option linter.unusedSimpArgs false
theorem cut_to3 {P : Program} (t e : TypeId) (kh : IntKind) {i : TypeInfo} (ht : P.underlying t = some (.slice e)) (hi : P.info? e = some i) (A : Option Addr) (n c : Nat) (j : Nat) (hm : j ≤ n) (hc : n ≤ c) :
    ∀ W : World, (Instr.slice t (.slice A n c) none (some (.int kh (j : Int))) (some (.int kh (j : Int)))).run P W = .ok (.slice A j j) W := by
  intro W
  have hel : P.elem t = e := by simp [Program.elem, ht]
  have hu : P.underlying t = some (.slice (P.elem t)) := by rw [hel]; exact ht
  have ha : (A.map fun x => x.add 0) = A := by cases A <;> simp [Addr.add]
  have h1 : (j : Int) ≤ (c : Int) := by omega
  have h2 : (0 : Int) ≤ (j : Int) := by omega
  simp [Instr.slice, Instr.sliceAt, ht, hel, run_underlying ht, hi, Instr.sliceBounds, run_sliceBound, h1, h2, sizeOf, typeInfo, Result.andThen, ha]
/-- A reader lies in block gr: these bytes are left, of what lay there at w0. -/
structure RdI (w0 : World) (gr : Nat) (rest : List Int) (W : World) : Prop where
  c : ∃ A c, W.heap[gr]? = some (.cells #[.slice A rest.length c] 155 (0, 0)) ∧ rest.length ≤ c ∧ Kd.C (Kd.int .u8) w0 A rest.length rest
  b : Below w0.heap.size w0 W
  g : w0.heap.size ≤ gr
theorem RdI.later {w0 W W' : World} {gr : Nat} {rest : List Int} (h : RdI w0 gr rest W) (hb : Below W.heap.size W W') : RdI w0 gr rest W' := by
  obtain ⟨⟨A, c, h1, h2, h3⟩, h4, h5⟩ := h
  exact ⟨⟨A, c, blk_call hb h1, h2, h3⟩, below_step h4 hb, h5⟩
/-- Nothing but block gr is another one. -/
structure Only (gr : Nat) (W w' : World) : Prop where
  size : w'.heap.size = W.heap.size
  k : ∀ k, k ≠ gr → w'.heap[k]? = W.heap[k]?
theorem Only.keep {gr : Nat} {W w' : World} (h : Only gr W w') : KeepBut W w' gr none := ⟨Nat.le_of_eq h.size.symm, fun i _ hi _ => h.k i hi⟩
theorem heap_setCell_out {w : World} {g k : Nat} (j : Nat) (v : Value) (hk : k ≠ g) : (w.setCell ⟨g, j, none⟩ v).heap[k]? = w.heap[k]? := by
  simp [World.setCell, Array.getElem?_modify, Ne.symm hk]
theorem take_short (w0 : World) (gr : Nat) (rest : List Int) (n : Nat) (W : World) (h : RdI w0 gr rest W) (hn : rest.length < n) :
    Calls Try.prog 149 #[.pointer (some ⟨gr, 0, none⟩), .int .i64 (n : Int)] W fun e w' => e = .returned (.tuple #[.slice none 0 0, .int .i64 4]) ∧ W = w' := by
  obtain ⟨⟨A, c, h1, h2, h3⟩, h4, h5⟩ := h
  have hc := blk_cell0 h1
  obtain ⟨m, hm⟩ : ∃ m, rest.length = m := ⟨_, rfl⟩
  rw [hm] at hc hn
  have hnz : (m : Int) < (n : Int) := by omega
  clear h1 h2 h3 h4 hm
  go_enter Try.func149, Try.ntmps149
  go_wp2_with (fail)
  go_ret2
  exact ⟨rfl, rfl⟩
set_option maxHeartbeats 1000000 in
set_option maxRecDepth 100000 in
theorem take_ok (w0 : World) (gr : Nat) (rest : List Int) (n : Nat) (W : World) (h : RdI w0 gr rest W) (hn : n ≤ rest.length) :
    Calls Try.prog 149 #[.pointer (some ⟨gr, 0, none⟩), .int .i64 (n : Int)] W fun e w' => ∃ A', e = .returned (.tuple #[.slice A' n n, .int .i64 0]) ∧ Kd.C (Kd.int .u8) w0 A' n (rest.take n) ∧ RdI w0 gr (rest.drop n) w' ∧ Only gr W w' := by
  obtain ⟨⟨A, c, h1, h2, h3⟩, h4, h5⟩ := h
  obtain ⟨i5, hi5, hs5⟩ := info_size info5
  have hc := blk_cell0 h1
  have hf := blk_frozen0 h1
  have hm3 := Kd.C_max h3
  have cut1 := cut_to3 (P := Try.prog) 76 5 .i64 Try.underlying76 hi5 A rest.length c n hn h2
  have cut2 := cut_from (P := Try.prog) 76 5 .i64 Try.underlying76 hi5 1 hs5 A rest.length c (n : Int) (by omega) (by omega)
  have hC1 : Kd.C (Kd.int .u8) w0 A n (rest.take n) := by have := Kd.C_take h3 hn; rwa [List.length_take, Nat.min_eq_left hn] at this
  have hC2 : Kd.C (Kd.int .u8) w0 (if c = n then A else A.map (·.add (n * 1))) (rest.drop n).length (rest.drop n) := Kd.C_drop (c := c) h3 hn h2
  rw [Int.toNat_natCast] at cut2
  obtain ⟨A2, hA2⟩ : ∃ A2, (if c = n then A else A.map (·.add (n * 1))) = A2 := ⟨_, rfl⟩
  rw [hA2] at cut2 hC2
  obtain ⟨m, hm⟩ : ∃ m, rest.length = m := ⟨_, rfl⟩
  have H1 := Lib.hid h1
  have HC1 := Lib.hid hC1
  have HC2 := Lib.hid hC2
  have HB := Lib.hid h4
  have HG := Lib.hid h5
  have HD := Lib.hid (show (rest.drop n).length = m - n by rw [List.length_drop, hm])
  have HDC := Lib.hid (show m - n ≤ c - n by omega)
  rw [hm] at hc hn cut1 cut2 H1 hm3 h2
  have hnz : (n : Int) ≤ (m : Int) := by omega
  clear h1 h3 h4 h5 hm hC1 hC2 hA2
  go_enter Try.func149, Try.ntmps149
  go_wp2_with (fail)
  go_ret2
  refine ⟨A, rfl, HC1.out, ⟨⟨A2, c - n, ?_, by rw [HD.out]; exact HDC.out, HC2.out⟩, below_set HB.out HG.out, HG.out⟩, by simp [World.setCell], fun k hk => heap_setCell_out 0 _ hk⟩
  rw [HD.out]
  exact heap_setCell_in H1.out 0 _
/-- A number off the reader. -/
theorem number_short (w0 : World) (gr : Nat) (rest : List Int) (n : Nat) (W : World) (h : RdI w0 gr rest W) (hn : rest.length < n) :
    Calls Try.prog 97 #[.pointer (some ⟨gr, 0, none⟩), .int .i64 (n : Int)] W fun e w' => e = .returned (.tuple #[.int .i64 0, .int .i64 4]) ∧ W = w' := by
  have K := Lib.hid (take_short w0 gr rest n W h hn)
  clear h hn
  go_enter Try.func97, Try.ntmps97
  go_wp2_with (first | (go_at_call 149; refine K.out.mono ?_; rintro e w1 ⟨rfl, rfl⟩))
  go_ret2
  exact ⟨rfl, rfl⟩
theorem number_ok (w0 : World) (gr : Nat) (rest : List Int) (n : Nat) (W : World) (h : RdI w0 gr rest W) (hn : n ≤ rest.length) (hf : n = 1 ∨ n = 4) (hB : Bytes rest) :
    Calls Try.prog 97 #[.pointer (some ⟨gr, 0, none⟩), .int .i64 (n : Int)] W fun e w' => e = .returned (.tuple #[.int .i64 (valLE (rest.take n)), .int .i64 0]) ∧ RdI w0 gr (rest.drop n) w' ∧ Only gr W w' := by
  have K := Lib.hid (take_ok w0 gr rest n W h hn)
  have hBt : Bytes (rest.take n) := fun x hx => hB x (List.mem_of_mem_take hx)
  have hlen : (rest.take n).length = n := by rw [List.length_take, Nat.min_eq_left hn]
  have hv := valLE_bd hBt
  rw [hlen] at hv
  obtain ⟨l, hl⟩ : ∃ l, rest.take n = l := ⟨_, rfl⟩
  obtain ⟨d, hd⟩ : ∃ d, rest.drop n = d := ⟨_, rfl⟩
  rw [hl] at K hBt hlen hv ⊢
  rw [hd] at K ⊢
  have hget : Go.Proofs.Ytaoflcmjmhfblaa.H.get l 0 (n : Int) = (valLE l, 0) := by
    unfold Go.Proofs.Ytaoflcmjmhfblaa.H.get
    have hff : fits (n : Int) = true := by rcases hf with rfl | rfl <;> decide
    rw [if_neg (by rw [hff]; rintro (h | h | h); · cases h
                   · omega
                   · omega), if_neg (by omega)]
    simp [List.take_of_length_le (Nat.le_of_eq hlen)]
  have KG := Lib.hid (fun (A : Option Addr) W (hC : Kd.C (Kd.int .u8) W A l.length l) => get_calls A n l 0 (n : Int) W hC (by omega) hBt)
  have hp : (256 : Int) ^ n ≤ 4294967296 := by rcases hf with rfl | rfl <;> decide
  have wr : IntKind.i64.wrap (valLE l) = valLE l := by rw [IntKind.wrap_i64]; omega
  have HW := Lib.hid wr
  rw [hget, hlen] at KG
  have HBW := Lib.hid h.b
  clear h hn hf hB hBt hlen hv hget hp hl hd
  obtain ⟨q, hq⟩ : ∃ q, valLE l = q := ⟨_, rfl⟩
  rw [hq] at KG wr ⊢
  clear HW hq
  go_enter Try.func97, Try.ntmps97
  go_wp2_with (first
    | (go_at_call 149; refine K.out.mono ?_; rintro e w1 ⟨A1, rfl, hC1, hR1, hO1⟩; have KG1 := Lib.hid (KG.out A1 w1 (Kd.C_below hC1 hR1.b)); have HR1 := Lib.hid hR1; have HO1 := Lib.hid hO1; clear hC1 hR1 hO1)
    | (go_at_call 150; refine KG1.out.mono ?_; rintro e w2 ⟨rfl, rfl⟩))
  go_ret2
  exact ⟨rfl, HR1.out, HO1.out⟩
end Go.Proofs.Ytaoflcmjmhfblaa.D
