/- conf: pool, band, plan, own: rows of fields. -/
import Derived.Test.YtgiokbhedblkfaaCf5
import Derived.Great.Walk
namespace Go.Proofs.Ytgiokbhedblkfaa.C
open Go.RowKit Go.Proofs.YtgiokbhedblkfaaW.PrintWords Go.Proofs.YtgiokbhedblkfaaW.PrintLast Go.Proofs.YtgiokbhedblkfaaW.PrintMore Go.Proofs.Ytgiokbhedblkfaa.H Go.Shelf
set_option linter.unusedVariables false
set_option linter.unusedSimpArgs false
/-- A field without its box. -/
def Fd.noG (f : Fd) : Fd := { f with g := 0 }
/-- A call that makes a row of fields: row and boxes are new. -/
def MkL (w : World) (cs : List Fd) (e : Ending) (w' : World) : Prop :=
  ∃ (A : Option Addr) (c : Nat) (l : List Fd), e = .returned (.slice A l.length c) ∧ Kd.C kFd w' A l.length l ∧ Below w.heap.size w w' ∧ (∀ f ∈ l, f.Box w' ∧ w.heap.size ≤ f.g) ∧ l.map Fd.noG = cs ∧ ∀ ad, A = some ad → w.heap.size ≤ ad.block
theorem fm_get : ∀ (l : List Fd) (j : Nat) (f : Fd), l[j]? = some f → ∀ i u, f.cells[i]? = some u → (l.flatMap Fd.cells)[j * 7 + i]? = some u
  | [], j, f, h, i, u, hu => by cases h
  | x :: l, 0, f, h, i, u, hu => by
    cases h
    have hi := (List.getElem?_eq_some_iff.1 hu).1
    rw [List.flatMap_cons, Nat.zero_mul, Nat.zero_add, List.getElem?_append_left hi]
    exact hu
  | x :: l, j + 1, f, h, i, u, hu => by
    have h2 := fm_get l j f h i u hu
    have e : x.cells.length = 7 := rfl
    rw [List.flatMap_cons, List.getElem?_append_right (by rw [e]; omega), e]
    rw [show (j + 1) * 7 + i - 7 = j * 7 + i by omega]
    exact h2
theorem kFd_new (w : World) (l : List Fd) (hl : l ≠ []) (hm : l.length ≤ 100) : Kd.C kFd (w.alloc (.cells (l.flatMap Fd.cells).toArray 108 (0, 0))) (some ⟨w.heap.size, 0, none⟩) l.length l := by
  refine ⟨rfl, by omega, fun _ => ⟨_, rfl, fun j f hf => ⟨f.cells, rfl, rfl, fun i u hu => ?_⟩⟩⟩
  rw [add_lit0]
  unfold World.cell?
  simp only [heap_alloc_new]
  have h := fm_get l j f hf i u hu
  have e : kFd.sz = 7 := rfl
  rw [e]
  simpa using h
theorem fds_ {P : Program} {ops : Array Oper} {Q : Exit → Act → World → Prop} {oi : Oper} {N : Option Tmp} {a : Act} {w : World} {K : Act → World → Prop} (hw : Region.wanted oi (yielded ops a.tmps) = true) (hN : oi.dst = N) (t e : TypeId) (len : Nat) (parts : Array (Nat × Operand)) (ho : oi.op = .buildSlice t len parts)
    (hu : P.underlying t = some (.slice e)) (cells : Array Value) (hf : P.builtSlice e len (parts.map fun (i, x) => (i, a.eval x)).toList = some cells)
    (h : K (a.put N (.slice (some ⟨w.heap.size, 0, none⟩) len len)) (w.alloc (.cells cells e))) : if Region.wanted oi (yielded ops a.tmps) = true then Oper.wp P oi a w K Q else K (a.put N undef) w := by
  rw [if_pos hw]
  subst hN
  unfold Program.builtSlice at hf
  cases hie : P.info? e with
  | none => simp [hie] at hf
  | some ie =>
    simp only [hie] at hf
    cases hz : ie.zero with
    | none => simp [hz] at hf
    | some z =>
      simp only [hz] at hf
      by_cases hc : len * ie.size > 2 ^ 24 ∨ len * ie.size = 0
      · simp [hc] at hf
      · rw [if_neg hc] at hf
        exact wp_buildSlice t e len parts ho cells ie z hu hie hz (fun h' => hc (Or.inl h')) (fun h' => hc (Or.inr h')) hf h
def poolC (p : Addr) (x0 x1 x2 : Int) : List Fd := [⟨.T, (p.add 1), 0, 1, 0, 1, 0, x0⟩, ⟨.I, (p.add 2), 0, 1, 1, 100, 0, x1⟩, ⟨.I, (p.add 3), 0, 4, 0, 65536, 0, x2⟩]
set_option maxHeartbeats 4000000 in
set_option maxRecDepth 100000 in
theorem pool_mk (p : Addr) (x0 x1 x2 : Int) (w : World) : Calls Try.prog 44 #[.pointer (some p)] w (MkL w (poolC p x0 x1 x2)) := by
  have HB0 := Lib.hid (below_drew (Below.refl w.heap.size w))
  go_enter Try.func44, Try.ntmps44
  go_upto_region 1 with (fail)
  · skip
    refine start_ (n := 14) (S := fun w' => True) (ds := []) #[false, false, false, false, false, false, false, false, false, false, false, false, false, false] (by kernel_rfl) rfl rfl trivial (fun hHeld => ?_)
    generalize w.drew = W0 at HB0 hHeld ⊢
    refine pure_ (i := 0) (N := some 3) (v := ?_) (a' := ?_) #[true, false, false, false, false, false, false, false, false, false, false, false, false, false] rfl rfl (by kernel_rfl) (fun _ _ _ h => h) (Or.inl ⟨by rfl, ?_⟩) ?_ ?_
    rotate_left
    · intro w'
      go_simp
      with_reducible rfl
    rotate_left
    · simp only [Act.put, List.setIfInBounds_toArray, List.set_cons_zero, List.set_cons_succ, i64_w, i32_w]
      rfl
    refine pure_ (i := 1) (N := some 4) (v := ?_) (a' := ?_) #[true, true, false, false, false, false, false, false, false, false, false, false, false, false] rfl rfl (by kernel_rfl) (fun _ _ _ h => h) (Or.inl ⟨by rfl, ?_⟩) ?_ ?_
    rotate_left
    · intro w'
      go_simp
      with_reducible rfl
    rotate_left
    · simp only [Act.put, List.setIfInBounds_toArray, List.set_cons_zero, List.set_cons_succ, i64_w, i32_w]
      rfl
    refine pure_ (i := 2) (N := some 5) (v := ?_) (a' := ?_) #[true, true, true, false, false, false, false, false, false, false, false, false, false, false] rfl rfl (by kernel_rfl) (fun _ _ _ h => h) (Or.inl ⟨by rfl, ?_⟩) ?_ ?_
    rotate_left
    · intro w'
      go_simp
      with_reducible rfl
    rotate_left
    · simp only [Act.put, List.setIfInBounds_toArray, List.set_cons_zero, List.set_cons_succ, i64_w, i32_w]
      rfl
    refine pure_ (i := 4) (N := some 7) (v := ?_) (a' := ?_) #[true, true, true, false, true, false, false, false, false, false, false, false, false, false] rfl rfl (by kernel_rfl) (fun _ _ _ h => h) (Or.inl ⟨by rfl, ?_⟩) ?_ ?_
    rotate_left
    · intro w'
      go_simp
      with_reducible rfl
    rotate_left
    · simp only [Act.put, List.setIfInBounds_toArray, List.set_cons_zero, List.set_cons_succ, i64_w, i32_w]
      rfl
    refine pure_ (i := 5) (N := some 8) (v := ?_) (a' := ?_) #[true, true, true, false, true, true, false, false, false, false, false, false, false, false] rfl rfl (by kernel_rfl) (fun _ _ _ h => h) (Or.inl ⟨by rfl, ?_⟩) ?_ ?_
    rotate_left
    · intro w'
      go_simp
      with_reducible rfl
    rotate_left
    · simp only [Act.put, List.setIfInBounds_toArray, List.set_cons_zero, List.set_cons_succ, i64_w, i32_w]
      rfl
    refine pure_ (i := 6) (N := some 9) (v := ?_) (a' := ?_) #[true, true, true, false, true, true, true, false, false, false, false, false, false, false] rfl rfl (by kernel_rfl) (fun _ _ _ h => h) (Or.inl ⟨by rfl, ?_⟩) ?_ ?_
    rotate_left
    · intro w'
      go_simp
      with_reducible rfl
    rotate_left
    · simp only [Act.put, List.setIfInBounds_toArray, List.set_cons_zero, List.set_cons_succ, i64_w, i32_w]
      rfl
    refine pure_ (i := 8) (N := some 11) (v := ?_) (a' := ?_) #[true, true, true, false, true, true, true, false, true, false, false, false, false, false] rfl rfl (by kernel_rfl) (fun _ _ _ h => h) (Or.inl ⟨by rfl, ?_⟩) ?_ ?_
    rotate_left
    · intro w'
      go_simp
      with_reducible rfl
    rotate_left
    · simp only [Act.put, List.setIfInBounds_toArray, List.set_cons_zero, List.set_cons_succ, i64_w, i32_w]
      rfl
    refine pure_ (i := 9) (N := some 12) (v := ?_) (a' := ?_) #[true, true, true, false, true, true, true, false, true, true, false, false, false, false] rfl rfl (by kernel_rfl) (fun _ _ _ h => h) (Or.inl ⟨by rfl, ?_⟩) ?_ ?_
    rotate_left
    · intro w'
      go_simp
      with_reducible rfl
    rotate_left
    · simp only [Act.put, List.setIfInBounds_toArray, List.set_cons_zero, List.set_cons_succ, i64_w, i32_w]
      rfl
    refine pure_ (i := 10) (N := some 13) (v := ?_) (a' := ?_) #[true, true, true, false, true, true, true, false, true, true, true, false, false, false] rfl rfl (by kernel_rfl) (fun _ _ _ h => h) (Or.inl ⟨by rfl, ?_⟩) ?_ ?_
    rotate_left
    · intro w'
      go_simp
      with_reducible rfl
    rotate_left
    · simp only [Act.put, List.setIfInBounds_toArray, List.set_cons_zero, List.set_cons_succ, i64_w, i32_w]
      rfl
    refine one_ (i := 3) (N := some 6) #[true, true, true, true, true, true, true, false, true, true, true, false, false, false] rfl rfl (by kernel_rfl) (by decide) (fun K hK => ?_)
    refine goes_ Try.func96 (by kernel_rfl) rfl #[.pointer (some (p.add 1))] (by rfl) rfl rfl (by (try simp only [List.map_toArray, List.map_cons, List.map_nil]); first | done | rfl) ?_
    refine (truth_mk (p.add 1) _).mono ?_
    rintro e W1 ⟨b0, rfl, hb, hlt, hc⟩
    have HC0 := Lib.hid hc
    have HL0 := Lib.hid (Nat.le_trans HB0.out.size hlt)
    have HB1 := Lib.hid (below_step HB0.out hb)
    clear hb hlt hc
    refine ⟨_, rfl, ?_⟩
    refine hK.out _ _ (trivial) (fun hHeld => ?_)
    clear hK K
    refine norm_ (a' := ?_) ?_ ?_
    rotate_left
    · show Act.put _ (some 6) _ = _
      simp only [Act.put, List.setIfInBounds_toArray, List.set_cons_zero, List.set_cons_succ, i64_w, i32_w]
      rfl
    refine one_ (i := 7) (N := some 10) #[true, true, true, true, true, true, true, true, true, true, true, false, false, false] rfl rfl (by kernel_rfl) (by decide) (fun K hK => ?_)
    refine goes_ Try.func92 (by kernel_rfl) rfl #[.pointer (some (p.add 2)), .int .i64 1, .int .i64 1, .int .i64 100] (by rfl) rfl rfl (by (try simp only [List.map_toArray, List.map_cons, List.map_nil]); first | done | rfl) ?_
    refine (wholeI_mk (p.add 2) 1 1 100 _).mono ?_
    rintro e W2 ⟨b1, rfl, hb, hlt, hc⟩
    have HC0 := Lib.hid (cap_later HC0.out hb)
    have HC1 := Lib.hid hc
    have HL1 := Lib.hid (Nat.le_trans HB1.out.size hlt)
    have HB2 := Lib.hid (below_step HB1.out hb)
    clear hb hlt hc
    refine ⟨_, rfl, ?_⟩
    refine hK.out _ _ (trivial) (fun hHeld => ?_)
    clear hK K
    refine norm_ (a' := ?_) ?_ ?_
    rotate_left
    · show Act.put _ (some 10) _ = _
      simp only [Act.put, List.setIfInBounds_toArray, List.set_cons_zero, List.set_cons_succ, i64_w, i32_w]
      rfl
    refine one_ (i := 11) (N := some 14) #[true, true, true, true, true, true, true, true, true, true, true, true, false, false] rfl rfl (by kernel_rfl) (by decide) (fun K hK => ?_)
    refine goes_ Try.func92 (by kernel_rfl) rfl #[.pointer (some (p.add 3)), .int .i64 4, .int .i64 0, .int .i64 65536] (by rfl) rfl rfl (by (try simp only [List.map_toArray, List.map_cons, List.map_nil]); first | done | rfl) ?_
    refine (wholeI_mk (p.add 3) 4 0 65536 _).mono ?_
    rintro e W3 ⟨b2, rfl, hb, hlt, hc⟩
    have HC0 := Lib.hid (cap_later HC0.out hb)
    have HC1 := Lib.hid (cap_later HC1.out hb)
    have HC2 := Lib.hid hc
    have HL2 := Lib.hid (Nat.le_trans HB2.out.size hlt)
    have HB3 := Lib.hid (below_step HB2.out hb)
    clear hb hlt hc
    refine ⟨_, rfl, ?_⟩
    refine hK.out _ _ (trivial) (fun hHeld => ?_)
    clear hK K
    refine norm_ (a' := ?_) ?_ ?_
    rotate_left
    · show Act.put _ (some 14) _ = _
      simp only [Act.put, List.setIfInBounds_toArray, List.set_cons_zero, List.set_cons_succ, i64_w, i32_w]
      rfl
    refine one_ (i := 12) (N := some 15) #[true, true, true, true, true, true, true, true, true, true, true, true, true, false] rfl rfl (by kernel_rfl) (by decide) (fun K hK => ?_)
    refine fds_ (by rfl) rfl 71 108 3 _ rfl Try.underlying71 (([⟨.T, (p.add 1), b0, 1, 0, 1, 0, x0⟩, ⟨.I, (p.add 2), b1, 1, 1, 100, 0, x1⟩, ⟨.I, (p.add 3), b2, 4, 0, 65536, 0, x2⟩] : List Fd).flatMap Fd.cells).toArray (by kernel_rfl) ?_
    refine hK.out _ _ (trivial) (fun hHeld => ?_)
    clear hK K
    refine norm_ (a' := ?_) ?_ ?_
    rotate_left
    · show Act.put _ (some 15) _ = _
      simp only [Act.put, List.setIfInBounds_toArray, List.set_cons_zero, List.set_cons_succ, i64_w, i32_w]
      rfl
    refine pure_ (i := 13) (N := some 2) (v := ?_) (a' := ?_) #[true, true, true, true, true, true, true, true, true, true, true, true, true, true] rfl rfl (by kernel_rfl) (fun _ _ _ h => h) (Or.inl ⟨by rfl, ?_⟩) ?_ ?_
    rotate_left
    · intro w'
      go_simp
      with_reducible rfl
    rotate_left
    · simp only [Act.put, List.setIfInBounds_toArray, List.set_cons_zero, List.set_cons_succ, i64_w, i32_w]
      rfl
    refine done_ (by kernel_rfl) ?_
    go_wp2_with (fail)
    go_ret
    refine ⟨some ⟨W3.heap.size, 0, none⟩, 3, [⟨.T, (p.add 1), b0, 1, 0, 1, 0, x0⟩, ⟨.I, (p.add 2), b1, 1, 1, 100, 0, x1⟩, ⟨.I, (p.add 3), b2, 4, 0, 65536, 0, x2⟩], rfl, kFd_new W3 [⟨.T, (p.add 1), b0, 1, 0, 1, 0, x0⟩, ⟨.I, (p.add 2), b1, 1, 1, 100, 0, x1⟩, ⟨.I, (p.add 3), b2, 4, 0, 65536, 0, x2⟩] (by simp) (by simp), HB3.out.alloc HB3.out.size _, ?_, rfl, fun ad had => by cases had; exact HB3.out.size⟩
    have hA := (Below.refl W3.heap.size W3).alloc (Nat.le_refl _) (.cells (([⟨.T, (p.add 1), b0, 1, 0, 1, 0, x0⟩, ⟨.I, (p.add 2), b1, 1, 1, 100, 0, x1⟩, ⟨.I, (p.add 3), b2, 4, 0, 65536, 0, x2⟩] : List Fd).flatMap Fd.cells).toArray 108 (0, 0))
    intro f hf
    simp only [List.mem_cons, List.not_mem_nil, or_false] at hf
    rcases hf with rfl | rfl | rfl
    · exact ⟨cap_later HC0.out hA, HL0.out⟩
    · exact ⟨cap_later HC1.out hA, HL1.out⟩
    · exact ⟨cap_later HC2.out hA, HL2.out⟩
def bandC (p : Addr) (x0 x1 : Int) : List Fd := [⟨.I, (p.add 0), 0, 4, (-1048576), 1048576, 1048576, x0⟩, ⟨.I, (p.add 1), 0, 4, (-65536), 65536, 65536, x1⟩]
set_option maxHeartbeats 4000000 in
set_option maxRecDepth 100000 in
theorem band_mk (p : Addr) (x0 x1 : Int) (w : World) : Calls Try.prog 45 #[.pointer (some p)] w (MkL w (bandC p x0 x1)) := by
  have HB0 := Lib.hid (below_drew (Below.refl w.heap.size w))
  go_enter Try.func45, Try.ntmps45
  go_upto_region 1 with (fail)
  · skip
    refine start_ (n := 10) (S := fun w' => True) (ds := []) #[false, false, false, false, false, false, false, false, false, false] (by kernel_rfl) rfl rfl trivial (fun hHeld => ?_)
    generalize w.drew = W0 at HB0 hHeld ⊢
    refine pure_ (i := 0) (N := some 3) (v := ?_) (a' := ?_) #[true, false, false, false, false, false, false, false, false, false] rfl rfl (by kernel_rfl) (fun _ _ _ h => h) (Or.inl ⟨by rfl, ?_⟩) ?_ ?_
    rotate_left
    · intro w'
      go_simp
      with_reducible rfl
    rotate_left
    · simp only [Act.put, List.setIfInBounds_toArray, List.set_cons_zero, List.set_cons_succ, i64_w, i32_w]
      rfl
    refine pure_ (i := 1) (N := some 4) (v := ?_) (a' := ?_) #[true, true, false, false, false, false, false, false, false, false] rfl rfl (by kernel_rfl) (fun _ _ _ h => h) (Or.inl ⟨by rfl, ?_⟩) ?_ ?_
    rotate_left
    · intro w'
      go_simp
      with_reducible rfl
    rotate_left
    · simp only [Act.put, List.setIfInBounds_toArray, List.set_cons_zero, List.set_cons_succ, i64_w, i32_w]
      rfl
    refine pure_ (i := 2) (N := some 5) (v := ?_) (a' := ?_) #[true, true, true, false, false, false, false, false, false, false] rfl rfl (by kernel_rfl) (fun _ _ _ h => h) (Or.inl ⟨by rfl, ?_⟩) ?_ ?_
    rotate_left
    · intro w'
      go_simp
      with_reducible rfl
    rotate_left
    · simp only [Act.put, List.setIfInBounds_toArray, List.set_cons_zero, List.set_cons_succ, i64_w, i32_w]
      rfl
    refine pure_ (i := 4) (N := some 7) (v := ?_) (a' := ?_) #[true, true, true, false, true, false, false, false, false, false] rfl rfl (by kernel_rfl) (fun _ _ _ h => h) (Or.inl ⟨by rfl, ?_⟩) ?_ ?_
    rotate_left
    · intro w'
      go_simp
      with_reducible rfl
    rotate_left
    · simp only [Act.put, List.setIfInBounds_toArray, List.set_cons_zero, List.set_cons_succ, i64_w, i32_w]
      rfl
    refine pure_ (i := 5) (N := some 8) (v := ?_) (a' := ?_) #[true, true, true, false, true, true, false, false, false, false] rfl rfl (by kernel_rfl) (fun _ _ _ h => h) (Or.inl ⟨by rfl, ?_⟩) ?_ ?_
    rotate_left
    · intro w'
      go_simp
      with_reducible rfl
    rotate_left
    · simp only [Act.put, List.setIfInBounds_toArray, List.set_cons_zero, List.set_cons_succ, i64_w, i32_w]
      rfl
    refine pure_ (i := 6) (N := some 9) (v := ?_) (a' := ?_) #[true, true, true, false, true, true, true, false, false, false] rfl rfl (by kernel_rfl) (fun _ _ _ h => h) (Or.inl ⟨by rfl, ?_⟩) ?_ ?_
    rotate_left
    · intro w'
      go_simp
      with_reducible rfl
    rotate_left
    · simp only [Act.put, List.setIfInBounds_toArray, List.set_cons_zero, List.set_cons_succ, i64_w, i32_w]
      rfl
    refine one_ (i := 3) (N := some 6) #[true, true, true, true, true, true, true, false, false, false] rfl rfl (by kernel_rfl) (by decide) (fun K hK => ?_)
    refine goes_ Try.func100 (by kernel_rfl) rfl #[.pointer (some (p.add 0)), .int .i64 1048576] (by rfl) rfl rfl (by (try simp only [List.map_toArray, List.map_cons, List.map_nil]); first | done | rfl) ?_
    refine (shifted_mk (p.add 0) 1048576 (by unfold wrap64; omega) _).mono ?_
    rintro e W1 ⟨b0, rfl, hb, hlt, hc⟩
    have HC0 := Lib.hid hc
    have HL0 := Lib.hid (Nat.le_trans HB0.out.size hlt)
    have HB1 := Lib.hid (below_step HB0.out hb)
    clear hb hlt hc
    refine ⟨_, rfl, ?_⟩
    refine hK.out _ _ (trivial) (fun hHeld => ?_)
    clear hK K
    refine norm_ (a' := ?_) ?_ ?_
    rotate_left
    · show Act.put _ (some 6) _ = _
      simp only [Act.put, List.setIfInBounds_toArray, List.set_cons_zero, List.set_cons_succ, i64_w, i32_w]
      rfl
    refine one_ (i := 7) (N := some 10) #[true, true, true, true, true, true, true, true, false, false] rfl rfl (by kernel_rfl) (by decide) (fun K hK => ?_)
    refine goes_ Try.func100 (by kernel_rfl) rfl #[.pointer (some (p.add 1)), .int .i64 65536] (by rfl) rfl rfl (by (try simp only [List.map_toArray, List.map_cons, List.map_nil]); first | done | rfl) ?_
    refine (shifted_mk (p.add 1) 65536 (by unfold wrap64; omega) _).mono ?_
    rintro e W2 ⟨b1, rfl, hb, hlt, hc⟩
    have HC0 := Lib.hid (cap_later HC0.out hb)
    have HC1 := Lib.hid hc
    have HL1 := Lib.hid (Nat.le_trans HB1.out.size hlt)
    have HB2 := Lib.hid (below_step HB1.out hb)
    clear hb hlt hc
    refine ⟨_, rfl, ?_⟩
    refine hK.out _ _ (trivial) (fun hHeld => ?_)
    clear hK K
    refine norm_ (a' := ?_) ?_ ?_
    rotate_left
    · show Act.put _ (some 10) _ = _
      simp only [Act.put, List.setIfInBounds_toArray, List.set_cons_zero, List.set_cons_succ, i64_w, i32_w]
      rfl
    refine one_ (i := 8) (N := some 11) #[true, true, true, true, true, true, true, true, true, false] rfl rfl (by kernel_rfl) (by decide) (fun K hK => ?_)
    refine fds_ (by rfl) rfl 71 108 2 _ rfl Try.underlying71 (([⟨.I, (p.add 0), b0, 4, (-1048576), 1048576, 1048576, x0⟩, ⟨.I, (p.add 1), b1, 4, (-65536), 65536, 65536, x1⟩] : List Fd).flatMap Fd.cells).toArray (by kernel_rfl) ?_
    refine hK.out _ _ (trivial) (fun hHeld => ?_)
    clear hK K
    refine norm_ (a' := ?_) ?_ ?_
    rotate_left
    · show Act.put _ (some 11) _ = _
      simp only [Act.put, List.setIfInBounds_toArray, List.set_cons_zero, List.set_cons_succ, i64_w, i32_w]
      rfl
    refine pure_ (i := 9) (N := some 2) (v := ?_) (a' := ?_) #[true, true, true, true, true, true, true, true, true, true] rfl rfl (by kernel_rfl) (fun _ _ _ h => h) (Or.inl ⟨by rfl, ?_⟩) ?_ ?_
    rotate_left
    · intro w'
      go_simp
      with_reducible rfl
    rotate_left
    · simp only [Act.put, List.setIfInBounds_toArray, List.set_cons_zero, List.set_cons_succ, i64_w, i32_w]
      rfl
    refine done_ (by kernel_rfl) ?_
    go_wp2_with (fail)
    go_ret
    refine ⟨some ⟨W2.heap.size, 0, none⟩, 2, [⟨.I, (p.add 0), b0, 4, (-1048576), 1048576, 1048576, x0⟩, ⟨.I, (p.add 1), b1, 4, (-65536), 65536, 65536, x1⟩], rfl, kFd_new W2 [⟨.I, (p.add 0), b0, 4, (-1048576), 1048576, 1048576, x0⟩, ⟨.I, (p.add 1), b1, 4, (-65536), 65536, 65536, x1⟩] (by simp) (by simp), HB2.out.alloc HB2.out.size _, ?_, rfl, fun ad had => by cases had; exact HB2.out.size⟩
    have hA := (Below.refl W2.heap.size W2).alloc (Nat.le_refl _) (.cells (([⟨.I, (p.add 0), b0, 4, (-1048576), 1048576, 1048576, x0⟩, ⟨.I, (p.add 1), b1, 4, (-65536), 65536, 65536, x1⟩] : List Fd).flatMap Fd.cells).toArray 108 (0, 0))
    intro f hf
    simp only [List.mem_cons, List.not_mem_nil, or_false] at hf
    rcases hf with rfl | rfl
    · exact ⟨cap_later HC0.out hA, HL0.out⟩
    · exact ⟨cap_later HC1.out hA, HL1.out⟩
def planC (p : Addr) (x0 x1 x2 : Int) : List Fd := [⟨.U, (p.add 0), 0, 8, 0, 1099511627776, 0, x0⟩, ⟨.U, (p.add 1), 0, 4, 0, 65536, 0, x1⟩, ⟨.I, (p.add 2), 0, 4, 0, 65536, 0, x2⟩]
set_option maxHeartbeats 4000000 in
set_option maxRecDepth 100000 in
theorem plan_mk (p : Addr) (x0 x1 x2 : Int) (w : World) : Calls Try.prog 46 #[.pointer (some p)] w (MkL w (planC p x0 x1 x2)) := by
  have HB0 := Lib.hid (below_drew (Below.refl w.heap.size w))
  go_enter Try.func46, Try.ntmps46
  go_upto_region 1 with (fail)
  · skip
    refine start_ (n := 14) (S := fun w' => True) (ds := []) #[false, false, false, false, false, false, false, false, false, false, false, false, false, false] (by kernel_rfl) rfl rfl trivial (fun hHeld => ?_)
    generalize w.drew = W0 at HB0 hHeld ⊢
    refine pure_ (i := 0) (N := some 3) (v := ?_) (a' := ?_) #[true, false, false, false, false, false, false, false, false, false, false, false, false, false] rfl rfl (by kernel_rfl) (fun _ _ _ h => h) (Or.inl ⟨by rfl, ?_⟩) ?_ ?_
    rotate_left
    · intro w'
      go_simp
      with_reducible rfl
    rotate_left
    · simp only [Act.put, List.setIfInBounds_toArray, List.set_cons_zero, List.set_cons_succ, i64_w, i32_w]
      rfl
    refine pure_ (i := 1) (N := some 4) (v := ?_) (a' := ?_) #[true, true, false, false, false, false, false, false, false, false, false, false, false, false] rfl rfl (by kernel_rfl) (fun _ _ _ h => h) (Or.inl ⟨by rfl, ?_⟩) ?_ ?_
    rotate_left
    · intro w'
      go_simp
      with_reducible rfl
    rotate_left
    · simp only [Act.put, List.setIfInBounds_toArray, List.set_cons_zero, List.set_cons_succ, i64_w, i32_w]
      rfl
    refine pure_ (i := 2) (N := some 5) (v := ?_) (a' := ?_) #[true, true, true, false, false, false, false, false, false, false, false, false, false, false] rfl rfl (by kernel_rfl) (fun _ _ _ h => h) (Or.inl ⟨by rfl, ?_⟩) ?_ ?_
    rotate_left
    · intro w'
      go_simp
      with_reducible rfl
    rotate_left
    · simp only [Act.put, List.setIfInBounds_toArray, List.set_cons_zero, List.set_cons_succ, i64_w, i32_w]
      rfl
    refine pure_ (i := 4) (N := some 7) (v := ?_) (a' := ?_) #[true, true, true, false, true, false, false, false, false, false, false, false, false, false] rfl rfl (by kernel_rfl) (fun _ _ _ h => h) (Or.inl ⟨by rfl, ?_⟩) ?_ ?_
    rotate_left
    · intro w'
      go_simp
      with_reducible rfl
    rotate_left
    · simp only [Act.put, List.setIfInBounds_toArray, List.set_cons_zero, List.set_cons_succ, i64_w, i32_w]
      rfl
    refine pure_ (i := 5) (N := some 8) (v := ?_) (a' := ?_) #[true, true, true, false, true, true, false, false, false, false, false, false, false, false] rfl rfl (by kernel_rfl) (fun _ _ _ h => h) (Or.inl ⟨by rfl, ?_⟩) ?_ ?_
    rotate_left
    · intro w'
      go_simp
      with_reducible rfl
    rotate_left
    · simp only [Act.put, List.setIfInBounds_toArray, List.set_cons_zero, List.set_cons_succ, i64_w, i32_w]
      rfl
    refine pure_ (i := 6) (N := some 9) (v := ?_) (a' := ?_) #[true, true, true, false, true, true, true, false, false, false, false, false, false, false] rfl rfl (by kernel_rfl) (fun _ _ _ h => h) (Or.inl ⟨by rfl, ?_⟩) ?_ ?_
    rotate_left
    · intro w'
      go_simp
      with_reducible rfl
    rotate_left
    · simp only [Act.put, List.setIfInBounds_toArray, List.set_cons_zero, List.set_cons_succ, i64_w, i32_w]
      rfl
    refine pure_ (i := 8) (N := some 11) (v := ?_) (a' := ?_) #[true, true, true, false, true, true, true, false, true, false, false, false, false, false] rfl rfl (by kernel_rfl) (fun _ _ _ h => h) (Or.inl ⟨by rfl, ?_⟩) ?_ ?_
    rotate_left
    · intro w'
      go_simp
      with_reducible rfl
    rotate_left
    · simp only [Act.put, List.setIfInBounds_toArray, List.set_cons_zero, List.set_cons_succ, i64_w, i32_w]
      rfl
    refine pure_ (i := 9) (N := some 12) (v := ?_) (a' := ?_) #[true, true, true, false, true, true, true, false, true, true, false, false, false, false] rfl rfl (by kernel_rfl) (fun _ _ _ h => h) (Or.inl ⟨by rfl, ?_⟩) ?_ ?_
    rotate_left
    · intro w'
      go_simp
      with_reducible rfl
    rotate_left
    · simp only [Act.put, List.setIfInBounds_toArray, List.set_cons_zero, List.set_cons_succ, i64_w, i32_w]
      rfl
    refine pure_ (i := 10) (N := some 13) (v := ?_) (a' := ?_) #[true, true, true, false, true, true, true, false, true, true, true, false, false, false] rfl rfl (by kernel_rfl) (fun _ _ _ h => h) (Or.inl ⟨by rfl, ?_⟩) ?_ ?_
    rotate_left
    · intro w'
      go_simp
      with_reducible rfl
    rotate_left
    · simp only [Act.put, List.setIfInBounds_toArray, List.set_cons_zero, List.set_cons_succ, i64_w, i32_w]
      rfl
    refine one_ (i := 3) (N := some 6) #[true, true, true, true, true, true, true, false, true, true, true, false, false, false] rfl rfl (by kernel_rfl) (by decide) (fun K hK => ?_)
    refine goes_ Try.func94 (by kernel_rfl) rfl #[.pointer (some (p.add 0)), .int .i64 8, .int .i64 0, .int .i64 1099511627776] (by rfl) rfl rfl (by (try simp only [List.map_toArray, List.map_cons, List.map_nil]); first | done | rfl) ?_
    refine (wholeU_mk (p.add 0) 8 0 1099511627776 _).mono ?_
    rintro e W1 ⟨b0, rfl, hb, hlt, hc⟩
    have HC0 := Lib.hid hc
    have HL0 := Lib.hid (Nat.le_trans HB0.out.size hlt)
    have HB1 := Lib.hid (below_step HB0.out hb)
    clear hb hlt hc
    refine ⟨_, rfl, ?_⟩
    refine hK.out _ _ (trivial) (fun hHeld => ?_)
    clear hK K
    refine norm_ (a' := ?_) ?_ ?_
    rotate_left
    · show Act.put _ (some 6) _ = _
      simp only [Act.put, List.setIfInBounds_toArray, List.set_cons_zero, List.set_cons_succ, i64_w, i32_w]
      rfl
    refine one_ (i := 7) (N := some 10) #[true, true, true, true, true, true, true, true, true, true, true, false, false, false] rfl rfl (by kernel_rfl) (by decide) (fun K hK => ?_)
    refine goes_ Try.func94 (by kernel_rfl) rfl #[.pointer (some (p.add 1)), .int .i64 4, .int .i64 0, .int .i64 65536] (by rfl) rfl rfl (by (try simp only [List.map_toArray, List.map_cons, List.map_nil]); first | done | rfl) ?_
    refine (wholeU_mk (p.add 1) 4 0 65536 _).mono ?_
    rintro e W2 ⟨b1, rfl, hb, hlt, hc⟩
    have HC0 := Lib.hid (cap_later HC0.out hb)
    have HC1 := Lib.hid hc
    have HL1 := Lib.hid (Nat.le_trans HB1.out.size hlt)
    have HB2 := Lib.hid (below_step HB1.out hb)
    clear hb hlt hc
    refine ⟨_, rfl, ?_⟩
    refine hK.out _ _ (trivial) (fun hHeld => ?_)
    clear hK K
    refine norm_ (a' := ?_) ?_ ?_
    rotate_left
    · show Act.put _ (some 10) _ = _
      simp only [Act.put, List.setIfInBounds_toArray, List.set_cons_zero, List.set_cons_succ, i64_w, i32_w]
      rfl
    refine one_ (i := 11) (N := some 14) #[true, true, true, true, true, true, true, true, true, true, true, true, false, false] rfl rfl (by kernel_rfl) (by decide) (fun K hK => ?_)
    refine goes_ Try.func92 (by kernel_rfl) rfl #[.pointer (some (p.add 2)), .int .i64 4, .int .i64 0, .int .i64 65536] (by rfl) rfl rfl (by (try simp only [List.map_toArray, List.map_cons, List.map_nil]); first | done | rfl) ?_
    refine (wholeI_mk (p.add 2) 4 0 65536 _).mono ?_
    rintro e W3 ⟨b2, rfl, hb, hlt, hc⟩
    have HC0 := Lib.hid (cap_later HC0.out hb)
    have HC1 := Lib.hid (cap_later HC1.out hb)
    have HC2 := Lib.hid hc
    have HL2 := Lib.hid (Nat.le_trans HB2.out.size hlt)
    have HB3 := Lib.hid (below_step HB2.out hb)
    clear hb hlt hc
    refine ⟨_, rfl, ?_⟩
    refine hK.out _ _ (trivial) (fun hHeld => ?_)
    clear hK K
    refine norm_ (a' := ?_) ?_ ?_
    rotate_left
    · show Act.put _ (some 14) _ = _
      simp only [Act.put, List.setIfInBounds_toArray, List.set_cons_zero, List.set_cons_succ, i64_w, i32_w]
      rfl
    refine one_ (i := 12) (N := some 15) #[true, true, true, true, true, true, true, true, true, true, true, true, true, false] rfl rfl (by kernel_rfl) (by decide) (fun K hK => ?_)
    refine fds_ (by rfl) rfl 71 108 3 _ rfl Try.underlying71 (([⟨.U, (p.add 0), b0, 8, 0, 1099511627776, 0, x0⟩, ⟨.U, (p.add 1), b1, 4, 0, 65536, 0, x1⟩, ⟨.I, (p.add 2), b2, 4, 0, 65536, 0, x2⟩] : List Fd).flatMap Fd.cells).toArray (by kernel_rfl) ?_
    refine hK.out _ _ (trivial) (fun hHeld => ?_)
    clear hK K
    refine norm_ (a' := ?_) ?_ ?_
    rotate_left
    · show Act.put _ (some 15) _ = _
      simp only [Act.put, List.setIfInBounds_toArray, List.set_cons_zero, List.set_cons_succ, i64_w, i32_w]
      rfl
    refine pure_ (i := 13) (N := some 2) (v := ?_) (a' := ?_) #[true, true, true, true, true, true, true, true, true, true, true, true, true, true] rfl rfl (by kernel_rfl) (fun _ _ _ h => h) (Or.inl ⟨by rfl, ?_⟩) ?_ ?_
    rotate_left
    · intro w'
      go_simp
      with_reducible rfl
    rotate_left
    · simp only [Act.put, List.setIfInBounds_toArray, List.set_cons_zero, List.set_cons_succ, i64_w, i32_w]
      rfl
    refine done_ (by kernel_rfl) ?_
    go_wp2_with (fail)
    go_ret
    refine ⟨some ⟨W3.heap.size, 0, none⟩, 3, [⟨.U, (p.add 0), b0, 8, 0, 1099511627776, 0, x0⟩, ⟨.U, (p.add 1), b1, 4, 0, 65536, 0, x1⟩, ⟨.I, (p.add 2), b2, 4, 0, 65536, 0, x2⟩], rfl, kFd_new W3 [⟨.U, (p.add 0), b0, 8, 0, 1099511627776, 0, x0⟩, ⟨.U, (p.add 1), b1, 4, 0, 65536, 0, x1⟩, ⟨.I, (p.add 2), b2, 4, 0, 65536, 0, x2⟩] (by simp) (by simp), HB3.out.alloc HB3.out.size _, ?_, rfl, fun ad had => by cases had; exact HB3.out.size⟩
    have hA := (Below.refl W3.heap.size W3).alloc (Nat.le_refl _) (.cells (([⟨.U, (p.add 0), b0, 8, 0, 1099511627776, 0, x0⟩, ⟨.U, (p.add 1), b1, 4, 0, 65536, 0, x1⟩, ⟨.I, (p.add 2), b2, 4, 0, 65536, 0, x2⟩] : List Fd).flatMap Fd.cells).toArray 108 (0, 0))
    intro f hf
    simp only [List.mem_cons, List.not_mem_nil, or_false] at hf
    rcases hf with rfl | rfl | rfl
    · exact ⟨cap_later HC0.out hA, HL0.out⟩
    · exact ⟨cap_later HC1.out hA, HL1.out⟩
    · exact ⟨cap_later HC2.out hA, HL2.out⟩
end Go.Proofs.Ytgiokbhedblkfaa.C
