/- extra.weigh: the weight of what serves and of which something holds; the greatest one. -/
import Derived.Test.YtnlcpgeapgnkgaaExtra2
import Derived.Sort.AtCall
namespace Go.Proofs.Ytnlcpgeapgnkgaa.H
open Go.RowKit Go.Proofs.YtnlcpgeapgnkgaaW.PrintWords Go.Proofs.YtnlcpgeapgnkgaaW.PrintLast Go.Proofs.YtnlcpgeapgnkgaaW.PrintMore
set_option linter.unusedVariables false
set_option linter.unusedSimpArgs false
def wstep (P : InV → Bool) (a : Int × Int) (x : InV) : Int × Int := if serves x && P x then (a.1 + x.weight, max a.2 x.weight) else a
def wgh (P : InV → Bool) (L : List InV) : Int × Int := L.foldl (wstep P) (0, 0)
theorem wgh_succ (P : InV → Bool) (L : List InV) (i : Nat) (h : i < L.length) : wgh P (L.take (i + 1)) = wstep P (wgh P (L.take i)) (L.getD i noInst) := by
  unfold wgh
  rw [List.take_add_one, List.getElem?_eq_getElem h, List.foldl_append, List.getD_eq_getElem?_getD, List.getElem?_eq_getElem h]
  rfl
theorem wgh_bound (P : InV → Bool) (L : List InV) (h : ∀ j, j < L.length → 1 ≤ (L.getD j noInst).weight ∧ (L.getD j noInst).weight ≤ 100) (i : Nat) (hi : i ≤ L.length) : (0 ≤ (wgh P (L.take i)).1 ∧ (wgh P (L.take i)).1 ≤ 100 * i) ∧ 0 ≤ (wgh P (L.take i)).2 ∧ (wgh P (L.take i)).2 ≤ 100 := by
  induction i with
  | zero => simp [wgh]
  | succ i ih =>
    have := ih (by omega)
    have hw := h i (by omega)
    rw [wgh_succ P L i (by omega)]
    unfold wstep
    split
    · simp only
      omega
    · omega
theorem MayL.weights {L : List InV} (h : MayL L) : ∀ j, j < L.length → 1 ≤ (L.getD j noInst).weight ∧ (L.getD j noInst).weight ≤ 100 := fun j hj => (instMay_id (h.2 j hj).1).2
set_option maxHeartbeats 2000000 in
set_option maxRecDepth 100000 in
theorem weigh_calls {cs : Array Value} {s : StV} (h : StF cs s) (L : List InV) (w : World) (hL : kInst.C w s.ia s.ilen L) (f gb : Nat) (P : InV → Bool)
    (eg : ∀ args w, (callFunc f args).run Try.prog w = .ok (.enter f args) w) (hB : Boxd w gb 36 cs)
    (hf : ∀ (x : InV) (W : World), Boxd W gb 36 cs → Calls Try.prog f #[x.val, .pointer (some ⟨gb, 0, none⟩)] W fun e w' => e = .returned (.bool (P x)) ∧ Grw W w') (hM : MayL L) :
    Calls Try.prog 33 #[.agg cs, .func (.func f) #[] #[.pointer (some ⟨gb, 0, none⟩)]] w fun e w' => e = .returned (.tuple #[.int .i64 (wgh P L).1, .int .i64 (wgh P L).2]) ∧ Below w.heap.size w w' := by
  have v4 := h.insts
  have bnd := wgh_bound P L hM.weights
  have hl := hL.1
  have hm := Kd.C_max hL
  have hM1 := hM.1
  clear h
  obtain ⟨A, hA⟩ : ∃ A, s.ia = A := ⟨_, rfl⟩
  obtain ⟨n, hn⟩ : ∃ n, s.ilen = n := ⟨_, rfl⟩
  obtain ⟨c, hc⟩ : ∃ c, s.ic = c := ⟨_, rfl⟩
  rw [hA, hn, hc] at v4
  rw [hA, hn] at hL
  rw [hn] at hl hm
  have h4096 : n ≤ 4096 := by omega
  have HL := Lib.hid hL
  have HN := Lib.hid hl
  have HB0 := Lib.hid hB
  have HF := Lib.hid hf
  have BND := Lib.hid bnd
  have WBD := Lib.hid hM.weights
  clear hA hn hc hL hl hB hf bnd hM1 hM
  have mixed : Try.prog.follows .mixedOrders = true := by kernel_rfl
  have HW0 := Lib.hid ((Below.refl w.heap.size w).alloc (Nat.le_refl _) (.cells cs 36))
  go_enter Try.func33, Try.ntmps33
  go_wp2_with (fail)
  go_loopw [4, 5, 11] (fun u4 u5 u11 wr => ∃ (i : Nat), i ≤ n ∧ u11 = .int .i64 i ∧ u4 = .int .i64 (wgh P (L.take i)).1 ∧ u5 = .int .i64 (wgh P (L.take i)).2 ∧ Hid (Below w.heap.size w wr)) (fun _ _ u11 _ => n - (intOf u11).toNat)
  case atStart => exact ⟨0, by omega, rfl, rfl, rfl, HW0⟩
  case round =>
    obtain ⟨i, hi, rfl, rfl, rfl, HB⟩ := hrel
    by_cases hlt : i < n
    · obtain ⟨ad, ea, hc⟩ := inst_at (Kd.C_below HL.out HB.out) i hlt
      subst ea
      obtain ⟨b1, b2⟩ := BND.out i (by rw [HN.out]; omega)
      have hst := wgh_succ P L i (by rw [HN.out]; exact hlt)
      obtain ⟨x, hx⟩ : ∃ x, L.getD i noInst = x := ⟨_, rfl⟩
      have bw := BND.out (i + 1) (by rw [HN.out]; omega)
      rw [hx] at hc hst
      have K1 := fun W => serves_calls x W
      have K2 := fun W => HF.out x W
      obtain ⟨r1, hr1⟩ : ∃ r, serves x = r := ⟨_, rfl⟩
      obtain ⟨r2, hr2⟩ : ∃ r, P x = r := ⟨_, rfl⟩
      have wbd : 1 ≤ x.weight ∧ x.weight ≤ 100 := by rw [← hx]; exact WBD.out i (by rw [HN.out]; exact hlt)
      unfold wstep at hst
      rw [hr1, hr2] at hst
      rw [hr1] at K1
      rw [hr2] at K2
      obtain ⟨p1, hp1⟩ : ∃ p, (wgh P (L.take i)).1 = p := ⟨_, rfl⟩
      obtain ⟨p2, hp2⟩ : ∃ p, (wgh P (L.take i)).2 = p := ⟨_, rfl⟩
      have HPP := Lib.hid (And.intro hp1 hp2)
      rw [hp1] at b1
      rw [hp2] at b2
      rw [hp1, hp2]
      clear hx hr1 hr2 bw hp1 hp2
      obtain ⟨i0, i1, i2, i3, i4, i5, i6, i7, i8, i9, i10, i11⟩ := x
      have hc : ∀ j v, ([.int .u64 i0, .int .u64 i1, .int .i64 i2, .int .i64 i3, .bool i4, .int .u8 i5, .int .u64 i6, .bool i7, .int .u64 i8, .bool i9, .bool i10, .int .u32 i11] : List Value)[j]? = some v → wr.cell? ((ad.add (i * 12)).add j) = some v := hc
      simp only [InV.val, InV.cells] at K1 K2 hst wbd
      have HST := Lib.hid hst
      have HCC := Lib.hid hc
      have K1 := Lib.hid K1
      have K2 := Lib.hid K2
      have HB2 := Lib.hid (Boxd.new wr 41 #[.int .u64 i0, .int .u64 i1, .int .i64 i2, .int .i64 i3, .bool i4, .int .u8 i5, .int .u64 i6, .bool i7, .int .u64 i8, .bool i9, .bool i10, .int .u32 i11])
      have HW1 := Lib.hid (HB.out.alloc HB.out.size (.cells #[.int .u64 i0, .int .u64 i1, .int .i64 i2, .int .i64 i3, .bool i4, .int .u8 i5, .int .u64 i6, .bool i7, .int .u64 i8, .bool i9, .bool i10, .int .u32 i11] 41))
      have HB1 := Lib.hid (HB0.out.below HW1.out)
      clear hc hst
      cases r1 <;> cases r2
      all_goals
        go_wp2_with (first
          | ((with_reducible refine gate_load 41 rfl ?_); refine wpList_load_any rfl 41 _ rfl _ rfl _ _ HCC.out Try.underlying41 rfl (by kernel_rfl) ?_)
          | ((with_reducible refine gate_storeT 41 rfl ?_); refine wpList_store_row rfl 41 _ _ rfl _ _ rfl rfl 41 _ (heap_alloc_new _ _) (by kernel_rfl) rfl (by simp [Value.oneCell']) ?_; rw [setRow_alloc])
          | ((with_reducible refine gate_load 41 rfl ?_); refine wpList_load_row rfl 41 _ rfl _ rfl 41 _ _ _ HB2.out Try.underlying41 rfl (by kernel_rfl) ?_)
          | ((with_reducible refine gate_load 41 rfl ?_); refine load_row_g (by rfl) 41 _ rfl _ rfl 41 _ _ _ HC2.out Try.underlying41 rfl (by kernel_rfl) ?_)
          | (go_at_call 31; refine (K1.out _).mono ?_; rintro e w2 ⟨rfl, hg⟩; have HC1 := Lib.hid (HB1.out.below hg.below); have HC2 := Lib.hid (HB2.out.below hg.below); have c3 := HC2.out.cell (k := 3) rfl; have HW2 := Lib.hid (below_step HW1.out hg.below); clear hg)
          | (go_at_fn f; refine (K2.out _ HC1.out).mono ?_; rintro e w3 ⟨rfl, hg⟩; have c3 := (HC2.out.below hg.below).cell (k := 3) rfl; have HW3 := Lib.hid (below_step HW2.out hg.below); clear hg))
      · exact ⟨⟨i + 1, by omega, by go_num, by rw [HST.out]; exact congrArg (Value.int .i64) HPP.out.1.symm, by rw [HST.out]; exact congrArg (Value.int .i64) HPP.out.2.symm, HW2⟩, by simp only [intOf]; omega⟩
      · exact ⟨⟨i + 1, by omega, by go_num, by rw [HST.out]; exact congrArg (Value.int .i64) HPP.out.1.symm, by rw [HST.out]; exact congrArg (Value.int .i64) HPP.out.2.symm, HW2⟩, by simp only [intOf]; omega⟩
      · exact ⟨⟨i + 1, by omega, by go_num, by rw [HST.out]; exact congrArg (Value.int .i64) HPP.out.1.symm, by rw [HST.out]; exact congrArg (Value.int .i64) HPP.out.2.symm, HW3⟩, by simp only [intOf]; omega⟩
      · have y3 : ∀ n, (w3.drewN n).cell? { block := wr.heap.size, off := 3 } = some (.int .i64 i3) := fun n => c3
        go_quiet (fail)
        have HW4 := Lib.hid (pw_below_drewN HW3.out nq)
        go_wp2_with (fail)
        exact ⟨⟨i + 1, by omega, by go_num, by rw [HST.out]; exact congrArg (Value.int .i64) (by show p1 + i3 = (wgh P (L.take i)).1 + i3; rw [HPP.out.1]), by rw [HST.out]; exact congrArg (Value.int .i64) (by show max p2 i3 = max (wgh P (L.take i)).2 i3; rw [HPP.out.2]), HW4⟩, by simp only [intOf]; omega⟩
    · have hin : i = n := by omega
      subst hin
      have e : L.take i = L := List.take_of_length_le (by rw [HN.out]; omega)
      rw [e]
      go_wp2_with (fail)
      go_ret2
      exact ⟨rfl, HB.out⟩
end Go.Proofs.Ytnlcpgeapgnkgaa.H
