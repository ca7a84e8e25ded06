/- name.Sort of the texts of 'lives' (under way). -/
import Derived.Test.YtnlcpgeapgnkgaaIns
import Derived.Test.YtnlcpgeapgnkgaaSame
import Derived.Lib.OwnBridge
import Derived.Lib.AppendIntMem
namespace Go.Proofs.Ytnlcpgeapgnkgaa.H
open Go.RowKit Go.Proofs.YtnlcpgeapgnkgaaW.PrintWords Go.Proofs.YtnlcpgeapgnkgaaW.PrintLast Go.Proofs.YtnlcpgeapgnkgaaW.PrintMore
open Go.Shelf Go.Sort
set_option linter.unusedVariables false
set_option linter.unusedSimpArgs false

theorem info_int : (Try.prog.info? 3).map (fun i => (i.zero, i.size, i.bytes)) = some (some (.int .i64 0), 1, 8) := by kernel_rfl
theorem info_str : (Try.prog.info? 9).map (fun i => (i.zero, i.size, i.bytes)) = some (some (.string ByteArray.empty), 1, 16) := by kernel_rfl
def L4 : List ByteArray := [⟨#[98, 98]⟩, ⟨#[97]⟩, ⟨#[97, 97]⟩, ⟨#[97]⟩]
theorem sorted4 : insertionSort (ltOf (cfF 3 L4)) #[0, 1, 2, 3] 0 4 = #[1, 3, 2, 0] := by decide +kernel
def upTo (i : Nat) : List Int := (List.range i).map fun k : Nat => (k : Int)
theorem upTo_succ (i : Nat) : upTo (i + 1) = upTo i ++ [(i : Int)] := by simp [upTo, List.range_succ]
theorem upTo_length (i : Nat) : (upTo i).length = i := by simp [upTo]
theorem below_SW {n : Nat} {w0 wr w2 : World} {g : Nat} {D : Array (Fin (n + 1))} (hB : Below w0.heap.size w0 wr) (gb : w0.heap.size ≤ g) (h : SW (encF n) wr g 0 D w2) : Below w0.heap.size w0 w2 := by
  obtain ⟨k, os, rfl⟩ := h
  have h1 := Go.Lib.below_putRow (enc := encF n) (q := k) (d := D) hB gb
  have h2 := Go.Lib.below_grow w0.heap.size (putRow (encF n) (Sort.ahead wr k) g 0 D) h1.size 0 os
  exact h1.trans h2
theorem ints4 {W : World} {g : Nat} (h : Holds (encF 3) W g 0 (#[1, 3, 2, 0] : Array (Fin (3 + 1)))) : Kd.C (Kd.int .i64) W (some ⟨g, 0, none⟩) 4 [1, 3, 2, 0] := by
  refine ⟨rfl, by decide, fun _ => ⟨_, rfl, fun j p hj => ⟨[.int .i64 p], rfl, rfl, fun i u hu => ?_⟩⟩⟩
  have hi : i = 0 := by
    cases i with
    | zero => rfl
    | succ i => cases hu
  subst hi
  obtain rfl : Value.int .i64 p = u := Option.some.inj hu
  have hj1 : j < 4 := (List.getElem?_eq_some_iff.1 hj).1
  have h1 := (h j hj1).1
  have : j = 0 ∨ j = 1 ∨ j = 2 ∨ j = 3 := by omega
  rcases this with rfl | rfl | rfl | rfl <;> (obtain rfl := Option.some.inj hj; exact h1)
def S4 : List ByteArray := [⟨#[97]⟩, ⟨#[97]⟩, ⟨#[97, 97]⟩, ⟨#[98, 98]⟩]
set_option maxRecDepth 100000 in
theorem sort_lives (ad : Addr) (c : Nat) (w : World) (hC : Kd.C Kd.string w (some ad) 4 L4) (hb : ad.block < w.heap.size) :
    Calls Try.prog 21 #[.slice (some ad) 4 c] w fun e w' => ∃ A1 c1 A2 c2, e = .returned (.tuple #[.slice A1 4 c1, .slice A2 4 c2]) ∧ Kd.C Kd.string w' A1 4 S4 ∧ Kd.C (Kd.int .i64) w' A2 4 [1, 3, 2, 0] ∧ Below w.heap.size w w' := by
  have H := Lib.hid hC
  clear hC
  go_enter Try.func21, Try.ntmps21
  go_wp2_with (fail)
  obtain ⟨w0, hw0⟩ : ∃ w0, w0 = w.alloc (Obj.cells #[.slice (some ad) 4 c] 48) := ⟨_, rfl⟩
  have hbox : w0.cell? ⟨w.heap.size, 0, none⟩ = some (.slice (some ad) 4 c) := by rw [hw0]; simp
  have hsz : w0.heap.size = w.heap.size + 1 := by rw [hw0]; simp
  have hB0 : Below w.heap.size w w0 := by rw [hw0]; exact (Below.refl w.heap.size w).alloc (Nat.le_refl _) _
  rw [← hw0]
  clear hw0
  have HS := Lib.hid hsz
  have HB0 := Lib.hid hB0
  clear hsz hB0
  go_loopw [4, 11] (fun v4 v11 wr => ∃ i : Nat, i ≤ 4 ∧ v11 = .int .i64 i ∧ Hid (Kd.R (Kd.int .i64) 3 wr w0.heap.size (fun _ => True) v4 (upTo i)) ∧ Hid (Below w0.heap.size w0 wr)) (fun _ v11 _ => 4 - (intOf v11).toNat)
  case atStart => exact ⟨0, by omega, rfl, Lib.hid (Kd.R_nil _ _ _ _ _), Lib.hid (Below.refl _ _)⟩
  case round =>
    obtain ⟨i, hi, rfl, HO, HB⟩ := hrel
    have hbx : wr.cell? ⟨w.heap.size, 0, none⟩ = some (.slice (some ad) 4 c) := (HB.out.cell (p := ⟨w.heap.size, 0, none⟩) (by rw [HS.out]; exact Nat.lt_succ_self _)).trans hbox
    by_cases hlt : i < 4
    · have HL : ((upTo i).length + 1) * 8 ≤ 140737488355328 := by rw [upTo_length]; omega
      have HL := Lib.hid HL
      go_wp2_with (first | ((with_reducible refine gate_builtin (b := .append) (xs := #[.tmp 14, .tmp 16]) rfl ?_); at_builtin; refine Kd.R_append (Kd.int .i64) (w0 := w0) w0.heap.size rfl (.tmp 14) (.tmp 16) 49 3 (.int .i64 0) 8 rfl Try.underlying49 info_int rfl (by decide) (by omega) u4 (upTo i) _ [.int .i64 _] (fun _ => True) (fun _ => False) rfl rfl rfl (fun _ hk => hk.elim) (fun _ _ => trivial) HO.out HB.out HB.out.size HL.out ?_; intro v1 w1 ho hb1 hg hat; clear hg hat; have HO1 := Lib.hid ho; have HB1 := Lib.hid hb1; clear ho hb1))
      exact ⟨⟨i + 1, by omega, by go_num, Lib.hid (by rw [upTo_succ]; exact HO1.out), HB1⟩, by simp only [intOf]; omega⟩
    · have : i = 4 := by omega
      subst this
      obtain ⟨g, c2, e2, gb, gl, cl⟩ := Kd.R_form HO.out (by rw [upTo_length]; omega)
      subst e2
      have hH : Holds (encF 3) wr g 0 (#[0, 1, 2, 3] : Array (Fin (3 + 1))) := by
        intro j hj
        have hj4 : j < 4 := hj
        obtain ⟨h1, h2⟩ := Kd.R_celln 0 HO.out (j : Int) (by omega) (by rw [upTo_length]; omega)
        have : j = 0 ∨ j = 1 ∨ j = 2 ∨ j = 3 := by omega
        rcases this with rfl | rfl | rfl | rfl <;> exact ⟨h1, h2⟩
      have hst : ∀ k, k < 3 + 1 → wr.cell? (ad.add k) = some (.string (L4.getD k ByteArray.empty)) := by
        intro k hk
        have h1 := Kd.foot_string (Kd.C_below (Kd.C_below H.out HB0.out) HB.out) (k : Int) (by omega) (by omega)
        rw [Int.toNat_natCast] at h1
        rw [h1]
        unfold rdOf
        rw [Int.toNat_natCast]
      have hsz := HB.out.size
      have hs0 := HS.out
      have K := Lib.hid (sortStable_calls w.heap.size ad c 3 L4 g c2 #[0, 1, 2, 3] wr (by omega) hbx hst (by omega) (by omega) (by omega) hH gl (by decide))
      have hH2 := Lib.hid hH
      clear hst hH hbx
      go_wp2_with (first | (go_at_call 47; refine K.out.mono ?_; rintro e w2 ⟨rfl, hs⟩; have HW := Lib.hid hs; clear hs))
      have hD := HW.out
      rw [show (#[0, 1, 2, 3] : Array (Fin (3 + 1))).size = 4 from rfl, sorted4] at hD
      have hB2 := below_SW HB.out gb hD
      have hI := ints4 (hD.holds gl hH2.out rfl)
      have HB2 := Lib.hid hB2
      have HI := Lib.hid hI
      have hbx2 : w2.cell? ⟨w.heap.size, 0, none⟩ = some (.slice (some ad) 4 c) := (HB2.out.cell (p := ⟨w.heap.size, 0, none⟩) (by rw [HS.out]; exact Nat.lt_succ_self _)).trans hbox
      clear hD hB2 hI HW hbox
      have hp : ∀ i k : Nat, ∀ x : Int, ([1, 3, 2, 0] : List Int)[i]? = some x → True := fun _ _ _ _ => trivial
      clear hp
      go_loopw [6, 24] (fun v6 v24 wq => ∃ i : Nat, i ≤ 4 ∧ v24 = .int .i64 i ∧ Hid (Kd.R Kd.string 9 wq w2.heap.size (fun _ => True) v6 (S4.take i)) ∧ Hid (Below w2.heap.size w2 wq)) (fun _ v24 _ => 4 - (intOf v24).toNat)
      case atStart => exact ⟨0, by omega, rfl, Lib.hid (Kd.R_nil _ _ _ _ _), Lib.hid (Below.refl _ _)⟩
      case round =>
        obtain ⟨i, hi, rfl, HP, HQ⟩ := hrel
        have hbq : wr.cell? ⟨w.heap.size, 0, none⟩ = some (.slice (some ad) 4 c) := (HQ.out.cell (p := ⟨w.heap.size, 0, none⟩) (by have := HB2.out.size; have := HS.out; show w.heap.size < _; omega)).trans hbx2
        have cI := Kd.C_below HI.out HQ.out
        have cS := Kd.C_below (Kd.C_below (Kd.C_below H.out HB0.out) HB2.out) HQ.out
        by_cases hlt : i < 4
        · have : i = 0 ∨ i = 1 ∨ i = 2 ∨ i = 3 := by omega
          obtain ⟨gd, eg, p1⟩ := Kd.at_int cI (i : Int) (by omega) (by omega)
          obtain rfl := Option.some.inj eg
          have hsb : wr.heap.size ≥ 0 := Nat.zero_le _
          clear hsb
          rcases this with rfl | rfl | rfl | rfl
          · have q1 : wr.cell? { block := g, off := 0 } = some (.int .i64 1) := p1
            have q2 : wr.cell? { block := ad.block, off := ad.off + 1 } = some (.string ⟨#[97]⟩) := Kd.foot_string cS 1 (by omega) (by omega)
            clear p1 cI cS
            go_wp2_with (first | ((with_reducible refine gate_builtin (b := .append) (xs := #[.tmp 28, .tmp 33]) rfl ?_); at_builtin; refine Kd.R_append Kd.string (w0 := w2) w2.heap.size rfl (.tmp 28) (.tmp 33) 48 9 (.string ByteArray.empty) 16 rfl Try.underlying48 info_str rfl (by decide) (by omega) u6 (S4.take 0) _ [.string _] (fun _ => True) (fun _ => False) rfl rfl rfl (fun _ hk => hk.elim) (fun _ _ => trivial) HP.out HQ.out HQ.out.size (by decide) ?_; intro v1 w1 ho hb1 hg hat; clear hg hat; have HO1 := Lib.hid ho; have HB1 := Lib.hid hb1; clear ho hb1))
            exact ⟨⟨1, by omega, rfl, HO1, HB1⟩, by simp only [intOf]; omega⟩
          · have q1 : wr.cell? { block := g, off := 1 } = some (.int .i64 3) := p1
            have q2 : wr.cell? { block := ad.block, off := ad.off + 3 } = some (.string ⟨#[97]⟩) := Kd.foot_string cS 3 (by omega) (by omega)
            clear p1 cI cS
            go_wp2_with (first | ((with_reducible refine gate_builtin (b := .append) (xs := #[.tmp 28, .tmp 33]) rfl ?_); at_builtin; refine Kd.R_append Kd.string (w0 := w2) w2.heap.size rfl (.tmp 28) (.tmp 33) 48 9 (.string ByteArray.empty) 16 rfl Try.underlying48 info_str rfl (by decide) (by omega) u6 (S4.take 1) _ [.string _] (fun _ => True) (fun _ => False) rfl rfl rfl (fun _ hk => hk.elim) (fun _ _ => trivial) HP.out HQ.out HQ.out.size (by decide) ?_; intro v1 w1 ho hb1 hg hat; clear hg hat; have HO1 := Lib.hid ho; have HB1 := Lib.hid hb1; clear ho hb1))
            exact ⟨⟨2, by omega, rfl, HO1, HB1⟩, by simp only [intOf]; omega⟩
          · have q1 : wr.cell? { block := g, off := 2 } = some (.int .i64 2) := p1
            have q2 : wr.cell? { block := ad.block, off := ad.off + 2 } = some (.string ⟨#[97, 97]⟩) := Kd.foot_string cS 2 (by omega) (by omega)
            clear p1 cI cS
            go_wp2_with (first | ((with_reducible refine gate_builtin (b := .append) (xs := #[.tmp 28, .tmp 33]) rfl ?_); at_builtin; refine Kd.R_append Kd.string (w0 := w2) w2.heap.size rfl (.tmp 28) (.tmp 33) 48 9 (.string ByteArray.empty) 16 rfl Try.underlying48 info_str rfl (by decide) (by omega) u6 (S4.take 2) _ [.string _] (fun _ => True) (fun _ => False) rfl rfl rfl (fun _ hk => hk.elim) (fun _ _ => trivial) HP.out HQ.out HQ.out.size (by decide) ?_; intro v1 w1 ho hb1 hg hat; clear hg hat; have HO1 := Lib.hid ho; have HB1 := Lib.hid hb1; clear ho hb1))
            exact ⟨⟨3, by omega, rfl, HO1, HB1⟩, by simp only [intOf]; omega⟩
          · have q1 : wr.cell? { block := g, off := 3 } = some (.int .i64 0) := p1
            have q2 : wr.cell? ad = some (.string ⟨#[98, 98]⟩) := Kd.foot_string cS 0 (by omega) (by omega)
            clear p1 cI cS
            go_wp2_with (first | ((with_reducible refine gate_builtin (b := .append) (xs := #[.tmp 28, .tmp 33]) rfl ?_); at_builtin; refine Kd.R_append Kd.string (w0 := w2) w2.heap.size rfl (.tmp 28) (.tmp 33) 48 9 (.string ByteArray.empty) 16 rfl Try.underlying48 info_str rfl (by decide) (by omega) u6 (S4.take 3) _ [.string _] (fun _ => True) (fun _ => False) rfl rfl rfl (fun _ hk => hk.elim) (fun _ _ => trivial) HP.out HQ.out HQ.out.size (by decide) ?_; intro v1 w1 ho hb1 hg hat; clear hg hat; have HO1 := Lib.hid ho; have HB1 := Lib.hid hb1; clear ho hb1))
            exact ⟨⟨4, by omega, rfl, HO1, HB1⟩, by simp only [intOf]; omega⟩
        · have : i = 4 := by omega
          subst this
          obtain ⟨A1, c1, rfl, hc1, hr1⟩ := Kd.R_reads HP.out
          have HR := Lib.hid hr1
          have HI2 := Lib.hid cI
          have HF := Lib.hid (below_step (below_step HB0.out HB2.out) HQ.out)
          clear hr1 cI cS
          go_wp2_with (fail)
          go_ret2
          exact ⟨_, _, _, _, rfl, HR.out, HI2.out, HF.out⟩
end Go.Proofs.Ytnlcpgeapgnkgaa.H
