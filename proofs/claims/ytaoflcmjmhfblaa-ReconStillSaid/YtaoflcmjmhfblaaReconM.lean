/- What the cloud tells, as values; recon.May. -/
import Derived.Test.YtaoflcmjmhfblaaInst0
namespace Go.Proofs.Ytaoflcmjmhfblaa.H
open Go.RowKit Go.Proofs.YtaoflcmjmhfblaaW.PrintWords Go.Proofs.YtaoflcmjmhfblaaW.PrintLast Go.Proofs.YtaoflcmjmhfblaaW.PrintMore
set_option linter.unusedVariables false
set_option linter.unusedSimpArgs false
structure TolV where
  id : Int
  token : Int
  state : Int
def TolV.cells (t : TolV) : Array Value := #[.int .u64 t.id, .int .u64 t.token, .int .u8 t.state]
def noTol : TolV := ⟨0, 0, 0⟩
instance : Inhabited TolV := ⟨noTol⟩
def kTol0 := Kd.pair (Kd.int .u64) (Kd.pair (Kd.int .u64) (Kd.int .u8))
def kTol : Kd TolV := Kd.iso kTol0 (fun t => (t.id, t.token, t.state))
theorem kTol_sz : kTol.sz = 3 := rfl
theorem kTol_cells {w : World} {t : TolV} {cs : List Value} (h : kTol.K w t cs) : cs = t.cells.toList := by
  obtain ⟨a0, b0, rfl, h0, a1, b1, rfl, h1, h2⟩ := h
  cases h0; cases h1; cases h2
  rfl
theorem kTol_K (w : World) (t : TolV) : kTol.K w t t.cells.toList := ⟨_, _, rfl, rfl, _, _, rfl, rfl, rfl⟩
theorem tol_at {w : World} {A : Option Addr} {n : Nat} {T : List TolV} (h : kTol.C w A n T) (i : Nat) (hi : i < n) : ∃ ad, A = some ad ∧ ∀ j v, (T.getD i noTol).cells.toList[j]? = some v → w.cell? ((ad.add (i * 3)).add j) = some v := by
  obtain ⟨ad, cs, e, _, h4, h5⟩ := Kd.C_get h noTol (i : Int) (by omega) (by omega)
  rw [Int.toNat_natCast] at h4 h5
  have e2 := kTol_cells h4
  subst e2
  refine ⟨ad, e, fun j v hv => ?_⟩
  rw [add_add]
  exact h5 j v hv
def tolOk (t : TolV) : Prop := t.id ≤ 4611686018427387904 ∧ 1 ≤ t.token ∧ t.token ≤ 4611686018427387904 ∧ 1 ≤ t.state ∧ t.state ≤ 3
/-- What is told may be: each may, their Ids rise, from above 0 on. -/
def MayT (T : List TolV) : Prop := ∀ i, i < T.length → tolOk (T.getD i noTol) ∧ 1 ≤ (T.getD i noTol).id ∧ (0 < i → (T.getD (i - 1) noTol).id < (T.getD i noTol).id)
/-- The numbers are what their types let them be. -/
def wfT (T : List TolV) : Prop := ∀ i, i < T.length → 0 ≤ (T.getD i noTol).id ∧ 0 ≤ (T.getD i noTol).token ∧ 0 ≤ (T.getD i noTol).state
set_option maxHeartbeats 2000000 in
set_option maxRecDepth 100000 in
theorem reconMay_calls (A : Option Addr) (c n : Nat) (T : List TolV) (w : World) (h : kTol.C w A n T) (hwf : wfT T) :
    Calls Try.prog 17 #[.slice A n c] w fun e w' => RetB e (MayT T) ∧ Below w.heap.size w w' := by
  have hl := h.1
  have hm := Kd.C_max h
  have H := Lib.hid h
  have HL := Lib.hid hl
  have HF := Lib.hid hwf
  clear h hl hwf
  go_enter Try.func17, Try.ntmps17
  go_wp2_with (fail)
  go_loopw [3, 8] (fun v3 v8 wr => ∃ (i : Nat) (last : Int), i ≤ n ∧ v8 = .int .i64 i ∧ v3 = .int .u64 last ∧ Hid (Below w.heap.size w wr) ∧ Hid ((i = 0 → last = 0) ∧ (0 < i → last = (T.getD (i - 1) noTol).id) ∧ ∀ j, j < i → tolOk (T.getD j noTol) ∧ 1 ≤ (T.getD j noTol).id ∧ (0 < j → (T.getD (j - 1) noTol).id < (T.getD j noTol).id))) (fun _ v8 _ => n - (intOf v8).toNat)
  case atStart => exact ⟨0, 0, by omega, rfl, rfl, Lib.hid (Below.refl _ _), Lib.hid ⟨fun _ => rfl, fun h => absurd h (by omega), fun j h => absurd h (by omega)⟩⟩
  case round =>
    obtain ⟨i, last, hi, rfl, rfl, HB, HD⟩ := hrel
    by_cases hlt : i < n
    · obtain ⟨ad, ea, hc⟩ := tol_at (Kd.C_below H.out HB.out) i hlt
      subst ea
      have wf := HF.out i (by rw [HL.out]; exact hlt)
      obtain ⟨x, hx⟩ : ∃ x, T.getD i noTol = x := ⟨_, rfl⟩
      rw [hx] at hc wf
      have HX := Lib.hid hx
      clear hx
      obtain ⟨i0, i1, i2⟩ := x
      have hc : ∀ j v, ([.int .u64 i0, .int .u64 i1, .int .u8 i2] : List Value)[j]? = some v → wr.cell? ((ad.add (i * 3)).add j) = some v := hc
      obtain ⟨f0, f1, f2⟩ : 0 ≤ i0 ∧ 0 ≤ i1 ∧ 0 ≤ i2 := wf
      have HCC := Lib.hid hc
      have HW1 := Lib.hid (fun o => HB.out.alloc HB.out.size o)
      clear hc
      have no : ¬ (last < i0 ∧ i0 ≤ 4611686018427387904 ∧ 1 ≤ i1 ∧ i1 ≤ 4611686018427387904 ∧ 1 ≤ i2 ∧ i2 ≤ 3) → ¬ MayT T := by
        intro hno hM
        apply hno
        obtain ⟨m1, m2, m3⟩ := hM i (by rw [HL.out]; exact hlt)
        rw [HX.out] at m1 m2 m3
        obtain ⟨q1, q2, q3, q4, q5⟩ := m1
        obtain ⟨d1, d2, _⟩ := HD.out
        simp only at q1 q2 q3 q4 q5 m2 m3
        refine ⟨?_, q1, q2, q3, q4, q5⟩
        rcases Nat.eq_zero_or_pos i with z | z
        · have := d1 z; omega
        · have := d2 z; have := m3 z; omega
      have NO := Lib.hid no
      clear no
      go_wp2_with (first
        | ((with_reducible refine gate_load 45 rfl ?_); refine wpList_load_any rfl 45 _ rfl _ rfl _ _ HCC.out Try.underlying45 rfl (by kernel_rfl) ?_)
        | ((with_reducible refine gate_storeT 45 rfl ?_); refine wpList_store_row rfl 45 _ _ rfl _ _ rfl rfl 45 _ (heap_alloc_new _ _) (by kernel_rfl) rfl (by simp [Value.oneCell']) ?_; rw [setRow_alloc]))
      all_goals first
        | (exfalso; omega)
        | (go_ret; refine ⟨.f rfl ?_, HW1.out _⟩; have := NO.out; refine this ?_; omega)
        | (obtain ⟨d1, d2, d3⟩ := HD.out
           refine ⟨⟨i + 1, i0, by omega, by go_num, rfl, Lib.hid (HW1.out _), Lib.hid ⟨fun h => absurd h (by omega), fun _ => by rw [Nat.add_sub_cancel, HX.out], fun j hj => ?_⟩⟩, by simp only [intOf]; omega⟩
           rcases Nat.lt_or_eq_of_le (Nat.le_of_lt_succ hj) with z | z
           · exact d3 j z
           · subst z
             have hi0 : 1 ≤ i0 := by
               rcases Nat.eq_zero_or_pos j with z | z
               · have := d1 z
                 omega
               · have := d2 z
                 have := (d3 (j - 1) (by omega)).2.1
                 omega
             rw [HX.out]
             refine ⟨⟨by show i0 ≤ _; omega, by show 1 ≤ i1; omega, by show i1 ≤ _; omega, by show 1 ≤ i2; omega, by show i2 ≤ 3; omega⟩, by show 1 ≤ i0; omega, fun hj0 => ?_⟩
             rw [← d2 hj0]
             show last < i0
             omega)
    · have hin : i = n := by omega
      subst hin
      go_wp2_with (fail)
      go_ret
      exact ⟨.t rfl (fun j hj => HD.out.2.2 j (by rw [HL.out] at hj; exact hj)), HB.out⟩
theorem o_told0 : OpensFs Try.prog [31, 31, 5] kTol0 (fun p => (Lit.int .u64 p.1).wf = true ∧ (Lit.int .u64 p.2.1).wf = true ∧ (Lit.int .u8 p.2.2).wf = true) :=
  OpensFs.cons (Opens.int Try.underlying31 (by kernel_rfl)) (OpensFs.cons (Opens.int Try.underlying31 (by kernel_rfl)) (OpensFs.one (Opens.int Try.underlying5 (by kernel_rfl))))
end Go.Proofs.Ytaoflcmjmhfblaa.H
