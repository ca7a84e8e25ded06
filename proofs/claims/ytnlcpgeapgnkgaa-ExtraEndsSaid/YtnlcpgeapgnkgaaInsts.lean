/- Lists of instances: how they are read; whether they may be. -/
import Derived.Test.YtnlcpgeapgnkgaaExtra
namespace Go.Proofs.Ytnlcpgeapgnkgaa.H
open Go.RowKit Go.Proofs.YtnlcpgeapgnkgaaW.PrintWords Go.Proofs.YtnlcpgeapgnkgaaW.PrintLast Go.Proofs.YtnlcpgeapgnkgaaW.PrintMore
set_option linter.unusedVariables false
set_option linter.unusedSimpArgs false
def kInst0 := Kd.pair (Kd.int .u64) (Kd.pair (Kd.int .u64) (Kd.pair (Kd.int .i64) (Kd.pair (Kd.int .i64) (Kd.pair Kd.bool (Kd.pair (Kd.int .u8) (Kd.pair (Kd.int .u64) (Kd.pair Kd.bool (Kd.pair (Kd.int .u64) (Kd.pair Kd.bool (Kd.pair Kd.bool (Kd.int .u32)))))))))))
def kInst : Kd InV := Kd.iso kInst0 (fun i => (i.id, i.token, i.pool, i.weight, i.spot, i.state, i.due, i.noticed, i.kill, i.risk, i.held, i.version))
/-- A call's ending tells whether P. -/
def RetB (e : Ending) (P : Prop) : Prop := ∃ b, e = .returned (.bool b) ∧ (b = true ↔ P)
theorem RetB.f {e : Ending} {P : Prop} (he : e = .returned (.bool false)) (h : ¬ P) : RetB e P := ⟨false, he, ⟨fun hf => absurd hf (by simp), fun hp => absurd hp h⟩⟩
theorem RetB.t {e : Ending} {P : Prop} (he : e = .returned (.bool true)) (h : P) : RetB e P := ⟨true, he, ⟨fun _ => h, fun _ => rfl⟩⟩
def noInst : InV := ⟨0, 0, 0, 0, false, 0, 0, false, 0, false, false, 0⟩
instance : Inhabited InV := ⟨noInst⟩
theorem kInst_sz : kInst.sz = 12 := rfl
theorem kInst_cells {w : World} {i : InV} {cs : List Value} (h : kInst.K w i cs) : cs = i.cells.toList := by
  obtain ⟨a0, b0, rfl, h0, a1, b1, rfl, h1, a2, b2, rfl, h2, a3, b3, rfl, h3, a4, b4, rfl, h4, a5, b5, rfl, h5, a6, b6, rfl, h6, a7, b7, rfl, h7, a8, b8, rfl, h8, a9, b9, rfl, h9, a10, b10, rfl, h10, h11⟩ := h
  cases h0; cases h1; cases h2; cases h3; cases h4; cases h5; cases h6; cases h7; cases h8; cases h9; cases h10; cases h11
  rfl
theorem inst_at {w : World} {A : Option Addr} {n : Nat} {L : List InV} (h : kInst.C w A n L) (i : Nat) (hi : i < n) : ∃ ad, A = some ad ∧ ∀ j v, (L.getD i noInst).cells.toList[j]? = some v → w.cell? ((ad.add (i * 12)).add j) = some v := by
  obtain ⟨ad, cs, e, _, h4, h5⟩ := Kd.C_get h noInst (i : Int) (by omega) (by omega)
  rw [Int.toNat_natCast] at h4 h5
  have e2 := kInst_cells h4
  subst e2
  refine ⟨ad, e, fun j v hv => ?_⟩
  rw [add_add]
  exact h5 j v hv
theorem wpList_load_any {P : Program} {ops : Array Oper} {rest : List Oper} {op : Oper} {a : Act} {w : World} {Q : Exit → Act → World → Prop} (hgd : op.guard = none) (ty : TypeId) (x : Operand) (ho : op.op = .load ty x)
    (p : Addr) (hx : a.eval x = .pointer (some p)) (cs : List Value) (d : TypeDesc) (hc : ∀ j v, cs[j]? = some v → w.cell? (p.add j) = some v)
    (hu : P.underlying ty = some d) (hd : d.isRow = true) (hi : (P.info? ty).map (·.size) = some cs.length)
    (h : wpList P ops Q rest (a.put op.dst (.agg cs.toArray)) w) : wpList P ops Q (op :: rest) a w :=
  wpList_plain hgd fun _ hK => by
    have hl : (loadCells p cs.length).run P w = .ok cs.toArray w := run_loadCells_list (P := P) w p cs hc
    have hv : (loadVar ty p).run P w = .ok (.agg cs.toArray) w := by
      cases hq : P.info? ty with
      | none => simp [hq] at hi
      | some i =>
        have hs : i.size = cs.length := by simpa [hq] using hi
        have hagg : (isAgg ty).run P w = .ok true w := by
          unfold isAgg
          rw [Sem.run_bind, run_underlying hu w]
          cases d <;> simp_all
        simp [loadVar, Sem.run_bind, hagg, sizeOf, typeInfo, hq, hs, hl]
    unfold Oper.wp execOp
    simp only [ho, hx, Instr.loadAt, Instr.sureAddr, Sem.run_bind, Sem.run_pure, Result.andThen_ok, hv]
    exact hK _ _ h
/-- The list may be: at most 4096, each may be, their Ids rise. -/
def MayL (L : List InV) : Prop := L.length ≤ 4096 ∧ ∀ i, i < L.length → instMay (L.getD i noInst) = true ∧ (0 < i → (L.getD (i - 1) noInst).id < (L.getD i noInst).id)
theorem instMay_id {i : InV} (h : instMay i = true) : 1 ≤ i.id ∧ 1 ≤ i.weight ∧ i.weight ≤ 100 := by
  simp only [instMay, Bool.and_eq_true, Bool.not_eq_true', Bool.or_eq_false_iff, decide_eq_false_iff_not] at h
  omega
set_option maxHeartbeats 1000000 in
set_option maxRecDepth 100000 in
theorem sumsMay_calls (A : Option Addr) (c n : Nat) (L : List InV) (w : World) (h : kInst.C w A n L) :
    Calls Try.prog 53 #[.slice A n c] w fun e w' => RetB e (MayL L) ∧ Below w.heap.size w w' := by
  have hl := h.1
  have hm := Kd.C_max h
  have H := Lib.hid h
  have HL := Lib.hid hl
  clear h hl
  by_cases hbig : 4096 < n
  · go_enter Try.func53, Try.ntmps53
    go_wp2_with (fail)
    all_goals first
      | (exfalso; omega)
      | (go_ret; exact ⟨.f rfl (fun hM => by have := hM.1; have := HL.out; omega), Below.refl _ _⟩)
  · go_enter Try.func53, Try.ntmps53
    go_wp2_with (fail)
    go_loopw [3, 11] (fun v3 v11 wr => ∃ (i : Nat) (last : Int), i ≤ n ∧ v11 = .int .i64 i ∧ v3 = .int .u64 last ∧ Hid (Below w.heap.size w wr) ∧ Hid ((i = 0 → last = 0) ∧ (0 < i → last = (L.getD (i - 1) noInst).id) ∧ ∀ j, j < i → instMay (L.getD j noInst) = true ∧ (0 < j → (L.getD (j - 1) noInst).id < (L.getD j noInst).id))) (fun _ v11 _ => n - (intOf v11).toNat)
    case atStart => exact ⟨0, 0, by omega, rfl, rfl, Lib.hid (Below.refl _ _), Lib.hid ⟨fun _ => rfl, fun h => absurd h (by omega), fun j h => absurd h (by omega)⟩⟩
    case round =>
      obtain ⟨i, last, hi, rfl, rfl, HB, HD⟩ := hrel
      by_cases hlt : i < n
      · obtain ⟨ad, ea, hc⟩ := inst_at (Kd.C_below H.out HB.out) i hlt
        subst ea
        obtain ⟨x, hx⟩ : ∃ x, L.getD i noInst = x := ⟨_, rfl⟩
        rw [hx] at hc
        have HX := Lib.hid hx
        have K := fun W => instMay_calls x W
        obtain ⟨r, hr⟩ : ∃ r, instMay x = r := ⟨_, rfl⟩
        rw [hr] at K
        have HR := Lib.hid hr
        have hid : x.id = (L.getD i noInst).id := by rw [hx]
        have HI := Lib.hid hid
        clear hx hr hid
        obtain ⟨i0, i1, i2, i3, i4, i5, i6, i7, i8, i9, i10, i11⟩ := x
        have hc : ∀ j v, ([.int .u64 i0, .int .u64 i1, .int .i64 i2, .int .i64 i3, .bool i4, .int .u8 i5, .int .u64 i6, .bool i7, .int .u64 i8, .bool i9, .bool i10, .int .u32 i11] : List Value)[j]? = some v → wr.cell? ((ad.add (i * 12)).add j) = some v := hc
        simp only [InV.val, InV.cells] at K
        have HCC := Lib.hid hc
        have K := Lib.hid K
        have HB2 := Lib.hid (Boxd.new wr 41 #[.int .u64 i0, .int .u64 i1, .int .i64 i2, .int .i64 i3, .bool i4, .int .u8 i5, .int .u64 i6, .bool i7, .int .u64 i8, .bool i9, .bool i10, .int .u32 i11])
        have HW1 := Lib.hid (HB.out.alloc HB.out.size (.cells #[.int .u64 i0, .int .u64 i1, .int .i64 i2, .int .i64 i3, .bool i4, .int .u8 i5, .int .u64 i6, .bool i7, .int .u64 i8, .bool i9, .bool i10, .int .u32 i11] 41))
        clear hc
        by_cases hq : i0 ≤ last
        · go_wp2_with (first
            | ((with_reducible refine gate_load 41 rfl ?_); refine wpList_load_any rfl 41 _ rfl _ rfl _ _ HCC.out Try.underlying41 rfl (by kernel_rfl) ?_)
            | ((with_reducible refine gate_storeT 41 rfl ?_); refine wpList_store_row rfl 41 _ _ rfl _ _ rfl rfl 41 _ (heap_alloc_new _ _) (by kernel_rfl) rfl (by simp [Value.oneCell']) ?_; rw [setRow_alloc]))
          all_goals first
            | (exfalso; omega)
            | (go_ret
               refine ⟨.f rfl (fun hM => ?_), HW1.out⟩
               obtain ⟨m1, m2⟩ := hM.2 i (by rw [HL.out]; exact hlt)
               obtain ⟨d1, d2, _⟩ := HD.out
               have hi0 := HI.out
               rw [HX.out] at m1 m2
               have e1 := (instMay_id m1).1
               simp only at e1 hi0 m2
               rcases Nat.eq_zero_or_pos i with z | z
               · have := d1 z; omega
               · have := d2 z; have := m2 z; omega)
        · cases r
          all_goals
            go_wp2_with (first
              | ((with_reducible refine gate_load 41 rfl ?_); refine wpList_load_any rfl 41 _ rfl _ rfl _ _ HCC.out Try.underlying41 rfl (by kernel_rfl) ?_)
              | ((with_reducible refine gate_storeT 41 rfl ?_); refine wpList_store_row rfl 41 _ _ rfl _ _ rfl rfl 41 _ (heap_alloc_new _ _) (by kernel_rfl) rfl (by simp [Value.oneCell']) ?_; rw [setRow_alloc])
              | ((with_reducible refine gate_load 41 rfl ?_); refine load_row_g (by rfl) 41 _ rfl _ rfl 41 _ _ _ (by exact HB2.out) Try.underlying41 rfl (by kernel_rfl) ?_)
              | (go_at_call 60; refine (K.out _).mono ?_; rintro e w2 ⟨rfl, hg⟩; have c1 := (HB2.out.below hg.below).cell (k := 0) rfl; have HW2 := Lib.hid (below_step HW1.out hg.below); clear hg))
          · go_ret
            refine ⟨.f rfl (fun hM => ?_), HW2.out⟩
            obtain ⟨m1, m2⟩ := hM.2 i (by rw [HL.out]; exact hlt)
            rw [HX.out, HR.out] at m1
            cases m1
          · obtain ⟨d1, d2, d3⟩ := HD.out
            refine ⟨⟨i + 1, i0, by omega, by go_num, rfl, HW2, Lib.hid ⟨fun h => absurd h (by omega), fun _ => by rw [Nat.add_sub_cancel]; exact HI.out, fun j hj => ?_⟩⟩, by simp only [intOf]; omega⟩
            rcases Nat.lt_or_eq_of_le (Nat.le_of_lt_succ hj) with z | z
            · exact d3 j z
            · subst z
              refine ⟨by rw [HX.out]; exact HR.out, fun hj0 => ?_⟩
              rw [← d2 hj0, ← HI.out]
              show last < i0
              omega
      · have hin : i = n := by omega
        subst hin
        go_wp2_with (fail)
        go_ret
        exact ⟨.t rfl ⟨by rw [HL.out]; omega, fun j hj => HD.out.2.2 j (by rw [HL.out] at hj; exact hj)⟩, HB.out⟩
end Go.Proofs.Ytnlcpgeapgnkgaa.H
