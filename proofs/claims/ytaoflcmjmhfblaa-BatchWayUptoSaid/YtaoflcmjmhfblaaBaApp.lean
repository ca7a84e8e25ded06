/- bytes.Clone, bytes.Equal, batch.Apply, batch.Between. -/
import Derived.Test.YtaoflcmjmhfblaaBaBoth
import Derived.Laws.CopyRow
namespace Go.Proofs.Ytaoflcmjmhfblaa.D
open Go.RowKit Go.Proofs.YtaoflcmjmhfblaaW.PrintWords Go.Proofs.YtaoflcmjmhfblaaW.PrintLast Go.Proofs.YtaoflcmjmhfblaaW.PrintMore Go.Proofs.Ytaoflcmjmhfblaa.H Go.Shelf
set_option linter.unusedVariables false
set_option linter.unusedSimpArgs false
theorem heap_setCell_in {w : World} {g : Nat} {cs : Array Value} {t : TypeId} {fr : Nat × Nat} (h : w.heap[g]? = some (.cells cs t fr)) (j : Nat) (v : Value) : (w.setCell ⟨g, j, none⟩ v).heap[g]? = some (.cells (cs.setIfInBounds j v) t fr) := by
  rw [setCell_eq_setRow w g j cs t fr v h]
  exact setRow_heap w g cs _ t fr h
theorem blk_call {w w' : World} {g : Nat} {o : Obj} (hb : Below w.heap.size w w') (h : w.heap[g]? = some o) : w'.heap[g]? = some o := (hb.block _ (blk_lt h)).trans h
set_option maxHeartbeats 1000000 in
theorem clone_calls (A : Option Addr) (c : Nat) (l : List Int) (w : World) (h : Kd.C (Kd.int .u8) w A l.length l) (hl : l.length ≤ 140737488355328) :
    Calls Try.prog 103 #[.slice A l.length c] w fun e w' => ∃ v0_ : Value, e = .returned v0_ ∧ Kd.R (Kd.int .u8) 5 w' w.heap.size (fun _ => True) v0_ l ∧ Below w.heap.size w w' := by
  have H := Lib.hid h
  have HL := Lib.hid hl
  have hnil := fun (W : World) (a : Option Addr) (n c : Nat) => Lib.run_eql_slice_nil (P := Try.prog) W 76 5 a n c 0 0 Try.underlying76
  rcases A with _ | ad
  · have h0 : l = [] := by
      rcases Nat.eq_zero_or_pos l.length with h | h
      · exact List.eq_nil_of_length_eq_zero h
      · obtain ⟨_, e, _⟩ := H.out.2.2 h; cases e
    subst h0
    clear h hl
    go_enter Try.func103, Try.ntmps103
    go_wp2_with (fail)
    all_goals first | (exfalso; omega) | (go_ret; exact ⟨_, rfl, Kd.R_nil _ _ _ _ _, Below.refl _ _⟩)
  · obtain ⟨n, hn⟩ : ∃ n, l.length = n := ⟨_, rfl⟩
    rw [hn] at H HL ⊢
    have hbel := (Below.refl w.heap.size w).alloc (Nat.le_refl _) (.cells #[] 5 (0, 0))
    have hro : Kd.R (Kd.int .u8) 5 (w.alloc (.cells #[] 5 (0, 0))) w.heap.size (fun _ => True) (.slice (some ⟨w.heap.size, 0, none⟩) 0 0) ([] : List Int) :=
      ⟨fun _ _ => trivial, [], ⟨rfl, .inr ⟨w.heap.size, 0, #[], rfl, Nat.le_refl _, heap_alloc_new _ _, Nat.le_refl _, by unfold maxLen; omega, rfl, rfl⟩⟩, Reps.none _ _⟩
    have hrd := Kd.C_below H.out hbel
    have HBE := Lib.hid hbel
    have HRO := Lib.hid hro
    have HRD := Lib.hid hrd
    have HN := Lib.hid hn
    clear h hn hl hbel hro hrd
    go_enter Try.func103, Try.ntmps103
    go_wp2_with (first
      | (at_builtin; refine Kd.R_append_rows (Kd.int .u8) (w0 := w) w.heap.size rfl _ _ 76 5 (.int .u8 0) 1 rfl Try.underlying76 info5 rfl (by decide) (by decide) _ ([] : List Int) l (some ad) n c (fun _ => True) (fun _ => False) rfl rfl HRO.out HRD.out (fun _ _ h => h) (fun _ h => h.elim) (fun _ _ => trivial) HBE.out (by simp) (by simpa using HL.out) ?_; intro v1 w1 ho hb hg hat; have HO := Lib.hid ho; have HB := Lib.hid hb; clear ho hb hg hat))
    all_goals first | (exfalso; omega) | (go_ret; exact ⟨_, rfl, HO.out, HB.out⟩)
def sameB (a b : List Int) : Bool := (strOfNums a).toList == (strOfNums b).toList
theorem equal_calls (A0 A1 : Option Addr) (n0 n1 c0 c1 : Nat) (l0 l1 : List Int) (w : World) (h0 : Kd.C (Kd.int .u8) w A0 n0 l0) (h1 : Kd.C (Kd.int .u8) w A1 n1 l1) :
    Calls Try.prog 110 #[.slice A0 n0 c0, .slice A1 n1 c1] w fun e w' => e = .returned (.bool (sameB l0 l1)) ∧ w = w' := by
  have hcv3 := Kd.C_string (P := Try.prog) (A := A0) (c := c0) Try.underlying76 Try.underlying5 Try.underlying9 h0
  have hcv4 := Kd.C_string (P := Try.prog) (A := A1) (c := c1) Try.underlying76 Try.underlying5 Try.underlying9 h1
  unfold sameB
  clear h0 h1
  go_enter Try.func110, Try.ntmps110
  go_wp2
  go_ret
  exact ⟨rfl, rfl⟩
/-- The variable 'out' lies in block gb; what it holds is of memory of the call's own. -/
structure OutI {α : Type} (d : Kd α) (e sl bytes : Nat) (w0 : World) (gb : Nat) (r : Nat) (s : List α) (W : World) : Prop where
  v : ∃ v, W.heap[gb]? = some (.cells #[v] sl (0, 0)) ∧ Kd.S d e W w0.heap.size (fun k => k ≠ gb) v s
  b : Below w0.heap.size w0 W
  g : w0.heap.size ≤ gb
  l : (s.length + r) * bytes ≤ 140737488355328
theorem OutI.later {α : Type} {d : Kd α} {e sl bytes gb r : Nat} {w0 W W' : World} {s : List α} (h : OutI d e sl bytes w0 gb r s W) (hb : Below W.heap.size W W') : OutI d e sl bytes w0 gb r s W' := by
  obtain ⟨⟨v, h1, h2⟩, h3, h4, h5⟩ := h
  exact ⟨⟨v, blk_call hb h1, Kd.S_below h2 hb⟩, below_step h3 hb, h4, h5⟩
theorem OutI.less {α : Type} {d : Kd α} {e sl bytes gb r : Nat} {w0 W : World} {s : List α} (h : OutI d e sl bytes w0 gb (r + 1) s W) : OutI d e sl bytes w0 gb r s W := by
  obtain ⟨h1, h3, h4, h5⟩ := h
  exact ⟨h1, h3, h4, Nat.le_trans (Nat.mul_le_mul_right _ (by omega)) h5⟩
theorem app_len {α : Type} {s : List α} {r b : Nat} (x : α) (h : (s.length + (r + 1)) * b ≤ 140737488355328) : ((s ++ [x]).length + r) * b ≤ 140737488355328 := by
  have e : (s ++ [x]).length + r = s.length + (r + 1) := by simp; omega
  rw [e]; exact h
theorem blk_cell0 {W : World} {gb : Nat} {v : Value} {t : TypeId} (h : W.heap[gb]? = some (.cells #[v] t (0, 0))) : W.cell? ⟨gb, 0, none⟩ = some v := by simp [World.cell?, h]
theorem blk_frozen0 {W : World} {gb : Nat} {v : Value} {t : TypeId} (h : W.heap[gb]? = some (.cells #[v] t (0, 0))) : W.frozen? ⟨gb, 0, none⟩ = false := by simp [World.frozen?, h]
theorem elRow2 {w0 : World} {ad : Addr} {x : RowS} (h : ElAt kRow w0 ad x) : ∃ Ax cx, x.f1.length ≤ cx ∧ (Kd.int .u8).C w0 Ax x.f1.length x.f1 ∧ ∀ W, Below w0.heap.size w0 W → W.cell? ad = some (.string x.f0) ∧ W.cell? ⟨ad.block, ad.off + 1, none⟩ = some (.slice Ax x.f1.length cx) := by
  obtain ⟨Ax, cx, h1, h2, h3⟩ := elRow h
  refine ⟨Ax, cx, h1, h2, fun W hW => ⟨?_, ?_⟩⟩
  · have := h3 W hW 0 _ rfl; rwa [addr_add0] at this
  · have := h3 W hW 1 _ rfl; simpa [Addr.add] using this
theorem elChg2 {w0 : World} {ad : Addr} {x : ChgS} (h : ElAt kChg w0 ad x) : ∃ Ax cx, x.f1.length ≤ cx ∧ (Kd.int .u8).C w0 Ax x.f1.length x.f1 ∧ ∀ W, Below w0.heap.size w0 W → W.cell? ad = some (.string x.f0) ∧ W.cell? ⟨ad.block, ad.off + 1, none⟩ = some (.slice Ax x.f1.length cx) ∧ W.cell? ⟨ad.block, ad.off + 2, none⟩ = some (.bool x.f2) := by
  obtain ⟨Ax, cx, h1, h2, h3⟩ := elChg h
  refine ⟨Ax, cx, h1, h2, fun W hW => ⟨?_, ?_, ?_⟩⟩
  · have := h3 W hW 0 _ rfl; rwa [addr_add0] at this
  · have := h3 W hW 1 _ rfl; simpa [Addr.add] using this
  · have := h3 W hW 2 _ rfl; simpa [Addr.add] using this
/-- What Apply does with a row, a change, or both. -/
def stepA (s : List RowS) : Option RowS → Option ChgS → List RowS
  | some x, none => s ++ [⟨x.f0, x.f1⟩]
  | none, none => s
  | _, some y => if y.f2 then s else s ++ [⟨y.f0, y.f1⟩]
abbrev InvA := OutI kRow 161 85 40
set_option maxHeartbeats 4000000 in
set_option maxRecDepth 100000 in
theorem apply1_row (w0 : World) (gb r : Nat) (s : List RowS) (ad : Addr) (x : RowS) (W : World) (hi : InvA w0 gb (r + 1) s W) (hx : ElAt kRow w0 ad x) (hpx : x.f1.length ≤ 524288) :
    Calls Try.prog 102 #[.pointer (some ad), .pointer none, .pointer (some ⟨gb, 0, none⟩)] W fun e w' => e = .returned (.tuple #[]) ∧ InvA w0 gb r (stepA s (some x) none) w' := by
  obtain ⟨⟨vo, hg0, hs0⟩, hb0, hog, hl0⟩ := hi
  have HOG := Lib.hid hog
  have HG3 := Lib.hid (blk_call (below_drew (Below.refl W.heap.size W)) hg0)
  have HB3 := Lib.hid (below_step hb0 (below_drew (Below.refl W.heap.size W)))
  have HS3 := Lib.hid (Kd.S_drew hs0)
  have HL := Lib.hid hl0
  obtain ⟨Ax, cx, _, hcx, hX⟩ := elRow2 hx
  have HX := Lib.hid hX
  have HCX := Lib.hid hcx
  have HPX := Lib.hid hpx
  clear hX hcx hpx hx hg0 hs0 hb0 hog hl0
  go_enter Try.func102, Try.ntmps102
  go_upto_region 1 with (fail)
  · skip
    refine start_ (n := 14) (S := fun w' => w'.heap[gb]? = some (.cells #[vo] 85 (0, 0)) ∧ w'.cell? ad = some (.string x.f0) ∧ w'.cell? ⟨ad.block, ad.off + 1, none⟩ = some (.slice Ax x.f1.length cx)) (ds := [13]) #[false, false, false, false, false, false, false, false, false, false, false, false, false, false] (by kernel_rfl) rfl rfl ⟨HG3.out, (HX.out _ HB3.out).1, (HX.out _ HB3.out).2⟩ (fun hHeld => ?_)
    generalize W.drew = W3 at HG3 HB3 HS3 hHeld ⊢
    refine pure_ (i := 1) (N := some 9) (v := ?_) (a' := ?_) #[false, true, false, false, false, false, false, false, false, false, false, false, false, false] rfl rfl (by kernel_rfl) (fun _ _ _ h => h) (Or.inl ⟨by rfl, ?_⟩) ?_ ?_
    rotate_left
    · intro w'
      go_simp
      with_reducible rfl
    rotate_left
    · simp only [Act.put, List.setIfInBounds_toArray, List.set_cons_zero, List.set_cons_succ, i64_w, i32_w]
      rfl
    refine pure_ (i := 2) (N := some 10) (v := ?_) (a' := ?_) #[false, true, true, false, false, false, false, false, false, false, false, false, false, false] rfl rfl (by kernel_rfl) (fun _ _ _ h => h) (Or.inl ⟨by rfl, ?_⟩) ?_ ?_
    rotate_left
    · intro w'
      go_simp
      with_reducible rfl
    rotate_left
    · simp only [Act.put, List.setIfInBounds_toArray, List.set_cons_zero, List.set_cons_succ, i64_w, i32_w]
      rfl
    refine pure_ (i := 3) (N := some 11) (v := ?_) (a' := ?_) #[false, true, true, true, false, false, false, false, false, false, false, false, false, false] rfl rfl (by kernel_rfl) (fun _ _ _ h => h) (Or.inl ⟨by rfl, ?_⟩) ?_ ?_
    rotate_left
    · intro w'
      go_simp
      with_reducible rfl
    rotate_left
    · simp only [Act.put, List.setIfInBounds_toArray, List.set_cons_zero, List.set_cons_succ, i64_w, i32_w]
      rfl
    refine pure_ (i := 5) (N := some 13) (v := ?_) (a' := ?_) #[false, true, true, true, false, true, false, false, false, false, false, false, false, false] rfl rfl (by kernel_rfl) (fun _ _ _ h => h) (Or.inl ⟨by rfl, ?_⟩) ?_ ?_
    rotate_left
    · intro w'
      go_simp
      with_reducible rfl
    rotate_left
    · simp only [Act.put, List.setIfInBounds_toArray, List.set_cons_zero, List.set_cons_succ, i64_w, i32_w]
      rfl
    refine pure_ (i := 6) (N := some 14) (v := ?_) (a' := ?_) #[false, true, true, true, false, true, true, false, false, false, false, false, false, false] rfl rfl (by kernel_rfl) (fun _ _ _ h => h) (Or.inl ⟨by rfl, ?_⟩) ?_ ?_
    rotate_left
    · intro w'
      go_simp
      with_reducible rfl
    rotate_left
    · simp only [Act.put, List.setIfInBounds_toArray, List.set_cons_zero, List.set_cons_succ, i64_w, i32_w]
      rfl
    refine pure_ (i := 7) (N := some 15) (v := ?_) (a' := ?_) #[false, true, true, true, false, true, true, true, false, false, false, false, false, false] rfl rfl (by kernel_rfl) (fun _ _ _ h => h) (Or.inl ⟨by rfl, ?_⟩) ?_ ?_
    rotate_left
    · intro w'
      go_simp
      with_reducible rfl
    rotate_left
    · simp only [Act.put, List.setIfInBounds_toArray, List.set_cons_zero, List.set_cons_succ, i64_w, i32_w]
      rfl
    refine take_ (i := 4) (N := some 12) (v := ?_) (a' := ?_) #[false, true, true, true, true, true, true, true, false, false, false, false, false, false] rfl rfl (by kernel_rfl) (fun _ _ _ h => h) (Or.inl ⟨by rfl, ?_⟩) hHeld ?_ ?_
    rotate_left
    · rintro w' ⟨s0, s1, s2⟩
      go_simp
      with_reducible rfl
    rotate_left
    · simp only [Act.put, List.setIfInBounds_toArray, List.set_cons_zero, List.set_cons_succ, i64_w, i32_w]
      rfl
    refine take_ (i := 0) (N := some 8) (v := ?_) (a' := ?_) #[true, true, true, true, true, true, true, true, false, false, false, false, false, false] rfl rfl (by kernel_rfl) (fun _ _ _ h => h) (Or.inl ⟨by rfl, ?_⟩) hHeld ?_ ?_
    rotate_left
    · rintro w' ⟨s0, s1, s2⟩
      have hc0 := blk_cell0 s0
      go_simp
      with_reducible rfl
    rotate_left
    · simp only [Act.put, List.setIfInBounds_toArray, List.set_cons_zero, List.set_cons_succ, i64_w, i32_w]
      rfl
    refine take_ (i := 8) (N := some 16) (v := ?_) (a' := ?_) #[true, true, true, true, true, true, true, true, true, false, false, false, false, false] rfl rfl (by kernel_rfl) (fun _ _ _ h => h) (Or.inl ⟨by rfl, ?_⟩) hHeld ?_ ?_
    rotate_left
    · rintro w' ⟨s0, s1, s2⟩
      go_simp
      with_reducible rfl
    rotate_left
    · simp only [Act.put, List.setIfInBounds_toArray, List.set_cons_zero, List.set_cons_succ, i64_w, i32_w]
      rfl
    refine one_ (i := 9) (N := some 17) #[true, true, true, true, true, true, true, true, true, true, false, false, false, false] rfl rfl (by kernel_rfl) (by decide) (fun K hK => ?_)
    refine goes_ Try.func103 (by kernel_rfl) rfl #[.slice Ax x.f1.length cx] (by rfl) rfl rfl (by (try simp only [List.map_toArray, List.map_cons, List.map_nil]); first | done | rfl) ?_
    refine (clone_calls Ax cx x.f1 _ (Kd.C_below HCX.out HB3.out) (by have := HPX.out; omega)).mono ?_
    rintro e W4 ⟨v5, rfl, hr5, hb5⟩
    have HB4 := Lib.hid (below_step HB3.out hb5)
    have HG4 := Lib.hid (blk_call hb5 HG3.out)
    have HS4 := Lib.hid (Kd.S_below (Kd.S_bound HS3.out) hb5)
    have HV := Lib.hid (Kd.R_lower (Kd.R_newM (M := fun k_ => W3.heap.size ≤ k_) hr5 (Nat.le_refl _) (fun k_ h_ => h_)) HB3.out.size)
    have HZ4 := Lib.hid hb5.size
    clear hr5 hb5
    obtain ⟨A5, c5, rfl⟩ := Kd.R_slice HV.out
    refine ⟨_, rfl, ?_⟩
    refine hK.out _ _ (⟨HG4.out, (HX.out _ HB4.out).1, (HX.out _ HB4.out).2⟩) (fun hHeld => ?_)
    clear hK K
    refine norm_ (a' := ?_) ?_ ?_
    rotate_left
    · show Act.put _ (some 17) _ = _
      simp only [Act.put, List.setIfInBounds_toArray, List.set_cons_zero, List.set_cons_succ, i64_w, i32_w]
      rfl
    refine pure_ (i := 10) (N := some 18) (v := ?_) (a' := ?_) #[true, true, true, true, true, true, true, true, true, true, true, false, false, false] rfl rfl (by kernel_rfl) (fun _ _ _ h => h) (Or.inl ⟨by rfl, ?_⟩) ?_ ?_
    rotate_left
    · intro w'
      go_simp
      with_reducible rfl
    rotate_left
    · simp only [Act.put, List.setIfInBounds_toArray, List.set_cons_zero, List.set_cons_succ, i64_w, i32_w]
      rfl
    refine one_ (i := 11) (N := some 19) #[true, true, true, true, true, true, true, true, true, true, true, true, false, false] rfl rfl (by kernel_rfl) (by decide) (fun K hK => ?_)
    refine value_ (w1 := ?_) (v := ?_) (by rfl) rfl ?_ ?_
    rotate_left 2
    · go_simp
      constructor
      · rfl
      · rfl
    have HG5 := Lib.hid ((Below.heap_alloc W4 (.cells #[.string x.f0, .slice A5 x.f1.length c5] 161 (0, 0)) gb (blk_lt HG4.out)).trans HG4.out)
    have HB5 := Lib.hid (HB4.out.alloc HB4.out.size (.cells #[.string x.f0, .slice A5 x.f1.length c5] 161 (0, 0)))
    refine hK.out _ _ (⟨HG5.out, (HX.out _ HB5.out).1, (HX.out _ HB5.out).2⟩) (fun hHeld => ?_)
    clear hK K
    refine norm_ (a' := ?_) ?_ ?_
    rotate_left
    · show Act.put _ (some 19) _ = _
      simp only [Act.put, List.setIfInBounds_toArray, List.set_cons_zero, List.set_cons_succ, i64_w, i32_w]
      rfl
    refine one_ (i := 12) (N := some 20) #[true, true, true, true, true, true, true, true, true, true, true, true, true, false] rfl rfl (by kernel_rfl) (by decide) (fun K hK => ?_)
    refine Kd.S_append_step kRow (w0 := w0) w0.heap.size (by rfl) (.tmp 8) (.tmp 19) 85 161 (.agg #[(.string ⟨#[]⟩), (.slice none 0 0)]) 40 rfl Try.underlying85 info161 rfl (by decide) (by omega) vo s (⟨x.f0, x.f1⟩ : RowS) [.string x.f0, .slice A5 x.f1.length c5] (fun k => k ≠ gb) (fun k_ => W3.heap.size ≤ k_ ∧ True) rfl rfl ?aP ?aok ?aF ?aO ?aB ?aS ?aL ?_
    (case aP => exact (k161_mkM _ _ _ (⟨x.f0, x.f1⟩ : RowS) HV.out))
    (case aok => exact (fun k hk => ⟨fun he => by have h1 := blk_lt HG3.out; have h2 := hk.1; omega, fun he => by have h1 := Kd.S_lt HS3.out k he.symm; have h2 := hk.1; omega⟩))
    (case aF => exact (fun k hk => fun he => by have h1 := blk_lt HG4.out; omega))
    (case aO => exact Kd.S_mono HS4.out (fun k hk => ⟨hk.1, fun h2 => by have h3 := hk.2.2.1; have h4 := h2.1; omega⟩))
    (case aB => exact HB4.out)
    (case aS => exact HB4.out.size)
    (case aL => have := HL.out; omega)
    intro v6 W6 ho hb hg hat
    have HS6 := Lib.hid ho
    have HB6 := Lib.hid hb
    have HG6 := Lib.hid ((hg.block gb (blk_lt HG4.out) (Kd.S_away HS4.out (fun k hk => hk.1))).trans HG4.out)
    clear ho hb hg hat
    refine hK.out _ _ (⟨HG6.out, (HX.out _ HB6.out).1, (HX.out _ HB6.out).2⟩) (fun hHeld => ?_)
    clear hK K
    refine norm_ (a' := ?_) ?_ ?_
    rotate_left
    · show Act.put _ (some 20) _ = _
      simp only [Act.put, List.setIfInBounds_toArray, List.set_cons_zero, List.set_cons_succ, i64_w, i32_w]
      rfl
    refine last_ (i := 13) (N := none) #[true, true, true, true, true, true, true, true, true, true, true, true, true, true] rfl rfl (by kernel_rfl) (by decide) (fun K hK => ?_)
    obtain ⟨A6, n6, c6, hv6⟩ : ∃ A n c, v6 = Value.slice A n c := by obtain ⟨A, c, e⟩ := Kd.S_slice HS6.out; exact ⟨A, _, c, e⟩
    subst hv6
    have hc0 := blk_cell0 HG6.out
    have hf0 := blk_frozen0 HG6.out
    refine skip_ (w1 := ?_) (by rfl) rfl ?_ ?_
    rotate_left 1
    · go_simp
      rfl
    refine hK.out _ _ ?_
    clear hK K hc0 hf0
    refine done_ (by kernel_rfl) ?_
    go_wp2_with (fail)
    refine bodyPost_end (results_none rfl _ _ _) rfl ⟨rfl, ?_⟩
    exact ⟨⟨_, heap_setCell_in HG6.out 0 _, Kd.S_far HS6.out (fun k hk => hk) _⟩, below_set HB6.out HOG.out, HOG.out, app_len _ HL.out⟩
set_option maxHeartbeats 4000000 in
set_option maxRecDepth 100000 in
theorem apply1_chg (w0 : World) (gb r : Nat) (s : List RowS) (px : Option Addr) (ox : Option RowS) (bd : Addr) (y : ChgS) (W : World) (hi : InvA w0 gb (r + 1) s W) (hy : ElAt kChg w0 bd y) (hpy : y.f1.length ≤ 524288) :
    Calls Try.prog 102 #[.pointer px, .pointer (some bd), .pointer (some ⟨gb, 0, none⟩)] W fun e w' => e = .returned (.tuple #[]) ∧ InvA w0 gb r (stepA s ox (some y)) w' := by
  have HI := Lib.hid hi
  obtain ⟨⟨vo, hg0, hs0⟩, hb0, hog, hl0⟩ := hi
  have HOG := Lib.hid hog
  have HG3 := Lib.hid (blk_call (below_drew (Below.refl W.heap.size W)) hg0)
  have HB3 := Lib.hid (below_step hb0 (below_drew (Below.refl W.heap.size W)))
  have HS3 := Lib.hid (Kd.S_drew hs0)
  have HL := Lib.hid hl0
  obtain ⟨Ax, cx, _, hcx, hX⟩ := elChg2 hy
  have HX := Lib.hid hX
  have HCX := Lib.hid hcx
  have HPX := Lib.hid hpy
  have hcb := (hX W hb0).2.2
  have hst : stepA s ox (some y) = if y.f2 then s else s ++ [⟨y.f0, y.f1⟩] := by cases ox <;> rfl
  rw [hst]
  clear hX hcx hpy hy hg0 hs0 hb0 hog hl0 hst
  obtain ⟨b, hb⟩ : ∃ b, y.f2 = b := ⟨_, rfl⟩
  rw [hb] at hcb ⊢
  clear hb
  cases b with
  | true =>
    go_enter Try.func102, Try.ntmps102
    go_wp2_with (fail)
    exact bodyPost_end (results_none rfl _ _ _) rfl ⟨rfl, HI.out.less⟩
  | false =>
    go_enter Try.func102, Try.ntmps102
    go_upto_region 3 with (fail)
    · clear hcb
      refine start_ (n := 14) (S := fun w' => w'.heap[gb]? = some (.cells #[vo] 85 (0, 0)) ∧ w'.cell? bd = some (.string y.f0) ∧ w'.cell? ⟨bd.block, bd.off + 1, none⟩ = some (.slice Ax y.f1.length cx)) (ds := [13]) #[false, false, false, false, false, false, false, false, false, false, false, false, false, false] (by kernel_rfl) rfl rfl ⟨HG3.out, (HX.out _ HB3.out).1, (HX.out _ HB3.out).2.1⟩ (fun hHeld => ?_)
      generalize W.drew = W3 at HG3 HB3 HS3 hHeld ⊢
      refine pure_ (i := 1) (N := some 28) (v := ?_) (a' := ?_) #[false, true, false, false, false, false, false, false, false, false, false, false, false, false] rfl rfl (by kernel_rfl) (fun _ _ _ h => h) (Or.inl ⟨by rfl, ?_⟩) ?_ ?_
      rotate_left
      · intro w'
        go_simp
        with_reducible rfl
      rotate_left
      · simp only [Act.put, List.setIfInBounds_toArray, List.set_cons_zero, List.set_cons_succ, i64_w, i32_w]
        rfl
      refine pure_ (i := 2) (N := some 29) (v := ?_) (a' := ?_) #[false, true, true, false, false, false, false, false, false, false, false, false, false, false] rfl rfl (by kernel_rfl) (fun _ _ _ h => h) (Or.inl ⟨by rfl, ?_⟩) ?_ ?_
      rotate_left
      · intro w'
        go_simp
        with_reducible rfl
      rotate_left
      · simp only [Act.put, List.setIfInBounds_toArray, List.set_cons_zero, List.set_cons_succ, i64_w, i32_w]
        rfl
      refine pure_ (i := 3) (N := some 30) (v := ?_) (a' := ?_) #[false, true, true, true, false, false, false, false, false, false, false, false, false, false] rfl rfl (by kernel_rfl) (fun _ _ _ h => h) (Or.inl ⟨by rfl, ?_⟩) ?_ ?_
      rotate_left
      · intro w'
        go_simp
        with_reducible rfl
      rotate_left
      · simp only [Act.put, List.setIfInBounds_toArray, List.set_cons_zero, List.set_cons_succ, i64_w, i32_w]
        rfl
      refine pure_ (i := 5) (N := some 32) (v := ?_) (a' := ?_) #[false, true, true, true, false, true, false, false, false, false, false, false, false, false] rfl rfl (by kernel_rfl) (fun _ _ _ h => h) (Or.inl ⟨by rfl, ?_⟩) ?_ ?_
      rotate_left
      · intro w'
        go_simp
        with_reducible rfl
      rotate_left
      · simp only [Act.put, List.setIfInBounds_toArray, List.set_cons_zero, List.set_cons_succ, i64_w, i32_w]
        rfl
      refine pure_ (i := 6) (N := some 33) (v := ?_) (a' := ?_) #[false, true, true, true, false, true, true, false, false, false, false, false, false, false] rfl rfl (by kernel_rfl) (fun _ _ _ h => h) (Or.inl ⟨by rfl, ?_⟩) ?_ ?_
      rotate_left
      · intro w'
        go_simp
        with_reducible rfl
      rotate_left
      · simp only [Act.put, List.setIfInBounds_toArray, List.set_cons_zero, List.set_cons_succ, i64_w, i32_w]
        rfl
      refine pure_ (i := 7) (N := some 34) (v := ?_) (a' := ?_) #[false, true, true, true, false, true, true, true, false, false, false, false, false, false] rfl rfl (by kernel_rfl) (fun _ _ _ h => h) (Or.inl ⟨by rfl, ?_⟩) ?_ ?_
      rotate_left
      · intro w'
        go_simp
        with_reducible rfl
      rotate_left
      · simp only [Act.put, List.setIfInBounds_toArray, List.set_cons_zero, List.set_cons_succ, i64_w, i32_w]
        rfl
      refine take_ (i := 4) (N := some 31) (v := ?_) (a' := ?_) #[false, true, true, true, true, true, true, true, false, false, false, false, false, false] rfl rfl (by kernel_rfl) (fun _ _ _ h => h) (Or.inl ⟨by rfl, ?_⟩) hHeld ?_ ?_
      rotate_left
      · rintro w' ⟨s0, s1, s2⟩
        go_simp
        with_reducible rfl
      rotate_left
      · simp only [Act.put, List.setIfInBounds_toArray, List.set_cons_zero, List.set_cons_succ, i64_w, i32_w]
        rfl
      refine take_ (i := 0) (N := some 27) (v := ?_) (a' := ?_) #[true, true, true, true, true, true, true, true, false, false, false, false, false, false] rfl rfl (by kernel_rfl) (fun _ _ _ h => h) (Or.inl ⟨by rfl, ?_⟩) hHeld ?_ ?_
      rotate_left
      · rintro w' ⟨s0, s1, s2⟩
        have hc0 := blk_cell0 s0
        go_simp
        with_reducible rfl
      rotate_left
      · simp only [Act.put, List.setIfInBounds_toArray, List.set_cons_zero, List.set_cons_succ, i64_w, i32_w]
        rfl
      refine take_ (i := 8) (N := some 35) (v := ?_) (a' := ?_) #[true, true, true, true, true, true, true, true, true, false, false, false, false, false] rfl rfl (by kernel_rfl) (fun _ _ _ h => h) (Or.inl ⟨by rfl, ?_⟩) hHeld ?_ ?_
      rotate_left
      · rintro w' ⟨s0, s1, s2⟩
        go_simp
        with_reducible rfl
      rotate_left
      · simp only [Act.put, List.setIfInBounds_toArray, List.set_cons_zero, List.set_cons_succ, i64_w, i32_w]
        rfl
      refine one_ (i := 9) (N := some 36) #[true, true, true, true, true, true, true, true, true, true, false, false, false, false] rfl rfl (by kernel_rfl) (by decide) (fun K hK => ?_)
      refine goes_ Try.func103 (by kernel_rfl) rfl #[.slice Ax y.f1.length cx] (by rfl) rfl rfl (by (try simp only [List.map_toArray, List.map_cons, List.map_nil]); first | done | rfl) ?_
      refine (clone_calls Ax cx y.f1 _ (Kd.C_below HCX.out HB3.out) (by have := HPX.out; omega)).mono ?_
      rintro e W4 ⟨v5, rfl, hr5, hb5⟩
      have HB4 := Lib.hid (below_step HB3.out hb5)
      have HG4 := Lib.hid (blk_call hb5 HG3.out)
      have HS4 := Lib.hid (Kd.S_below (Kd.S_bound HS3.out) hb5)
      have HV := Lib.hid (Kd.R_lower (Kd.R_newM (M := fun k_ => W3.heap.size ≤ k_) hr5 (Nat.le_refl _) (fun k_ h_ => h_)) HB3.out.size)
      have HZ4 := Lib.hid hb5.size
      clear hr5 hb5
      obtain ⟨A5, c5, rfl⟩ := Kd.R_slice HV.out
      refine ⟨_, rfl, ?_⟩
      refine hK.out _ _ (⟨HG4.out, (HX.out _ HB4.out).1, (HX.out _ HB4.out).2.1⟩) (fun hHeld => ?_)
      clear hK K
      refine norm_ (a' := ?_) ?_ ?_
      rotate_left
      · show Act.put _ (some 36) _ = _
        simp only [Act.put, List.setIfInBounds_toArray, List.set_cons_zero, List.set_cons_succ, i64_w, i32_w]
        rfl
      refine pure_ (i := 10) (N := some 37) (v := ?_) (a' := ?_) #[true, true, true, true, true, true, true, true, true, true, true, false, false, false] rfl rfl (by kernel_rfl) (fun _ _ _ h => h) (Or.inl ⟨by rfl, ?_⟩) ?_ ?_
      rotate_left
      · intro w'
        go_simp
        with_reducible rfl
      rotate_left
      · simp only [Act.put, List.setIfInBounds_toArray, List.set_cons_zero, List.set_cons_succ, i64_w, i32_w]
        rfl
      refine one_ (i := 11) (N := some 38) #[true, true, true, true, true, true, true, true, true, true, true, true, false, false] rfl rfl (by kernel_rfl) (by decide) (fun K hK => ?_)
      refine value_ (w1 := ?_) (v := ?_) (by rfl) rfl ?_ ?_
      rotate_left 2
      · go_simp
        constructor
        · rfl
        · rfl
      have HG5 := Lib.hid ((Below.heap_alloc W4 (.cells #[.string y.f0, .slice A5 y.f1.length c5] 161 (0, 0)) gb (blk_lt HG4.out)).trans HG4.out)
      have HB5 := Lib.hid (HB4.out.alloc HB4.out.size (.cells #[.string y.f0, .slice A5 y.f1.length c5] 161 (0, 0)))
      refine hK.out _ _ (⟨HG5.out, (HX.out _ HB5.out).1, (HX.out _ HB5.out).2.1⟩) (fun hHeld => ?_)
      clear hK K
      refine norm_ (a' := ?_) ?_ ?_
      rotate_left
      · show Act.put _ (some 38) _ = _
        simp only [Act.put, List.setIfInBounds_toArray, List.set_cons_zero, List.set_cons_succ, i64_w, i32_w]
        rfl
      refine one_ (i := 12) (N := some 39) #[true, true, true, true, true, true, true, true, true, true, true, true, true, false] rfl rfl (by kernel_rfl) (by decide) (fun K hK => ?_)
      refine Kd.S_append_step kRow (w0 := w0) w0.heap.size (by rfl) (.tmp 27) (.tmp 38) 85 161 (.agg #[(.string ⟨#[]⟩), (.slice none 0 0)]) 40 rfl Try.underlying85 info161 rfl (by decide) (by omega) vo s (⟨y.f0, y.f1⟩ : RowS) [.string y.f0, .slice A5 y.f1.length c5] (fun k => k ≠ gb) (fun k_ => W3.heap.size ≤ k_ ∧ True) rfl rfl ?aP ?aok ?aF ?aO ?aB ?aS ?aL ?_
      (case aP => exact (k161_mkM _ _ _ (⟨y.f0, y.f1⟩ : RowS) HV.out))
      (case aok => exact (fun k hk => ⟨fun he => by have h1 := blk_lt HG3.out; have h2 := hk.1; omega, fun he => by have h1 := Kd.S_lt HS3.out k he.symm; have h2 := hk.1; omega⟩))
      (case aF => exact (fun k hk => fun he => by have h1 := blk_lt HG4.out; omega))
      (case aO => exact Kd.S_mono HS4.out (fun k hk => ⟨hk.1, fun h2 => by have h3 := hk.2.2.1; have h4 := h2.1; omega⟩))
      (case aB => exact HB4.out)
      (case aS => exact HB4.out.size)
      (case aL => have := HL.out; omega)
      intro v6 W6 ho hb hg hat
      have HS6 := Lib.hid ho
      have HB6 := Lib.hid hb
      have HG6 := Lib.hid ((hg.block gb (blk_lt HG4.out) (Kd.S_away HS4.out (fun k hk => hk.1))).trans HG4.out)
      clear ho hb hg hat
      refine hK.out _ _ (⟨HG6.out, (HX.out _ HB6.out).1, (HX.out _ HB6.out).2.1⟩) (fun hHeld => ?_)
      clear hK K
      refine norm_ (a' := ?_) ?_ ?_
      rotate_left
      · show Act.put _ (some 39) _ = _
        simp only [Act.put, List.setIfInBounds_toArray, List.set_cons_zero, List.set_cons_succ, i64_w, i32_w]
        rfl
      refine last_ (i := 13) (N := none) #[true, true, true, true, true, true, true, true, true, true, true, true, true, true] rfl rfl (by kernel_rfl) (by decide) (fun K hK => ?_)
      obtain ⟨A6, n6, c6, hv6⟩ : ∃ A n c, v6 = Value.slice A n c := by obtain ⟨A, c, e⟩ := Kd.S_slice HS6.out; exact ⟨A, _, c, e⟩
      subst hv6
      have hc0 := blk_cell0 HG6.out
      have hf0 := blk_frozen0 HG6.out
      refine skip_ (w1 := ?_) (by rfl) rfl ?_ ?_
      rotate_left 1
      · go_simp
        rfl
      refine hK.out _ _ ?_
      clear hK K hc0 hf0
      refine done_ (by kernel_rfl) ?_
      go_wp2_with (fail)
      refine bodyPost_end (results_none rfl _ _ _) rfl ⟨rfl, ?_⟩
      exact ⟨⟨_, heap_setCell_in HG6.out 0 _, Kd.S_far HS6.out (fun k hk => hk) _⟩, below_set HB6.out HOG.out, HOG.out, app_len _ HL.out⟩
/-- What Between does with a row of the one table, of the other, or both. -/
def stepB (s : List ChgS) : Option RowS → Option RowS → List ChgS
  | some x, none => s ++ [⟨x.f0, [], true⟩]
  | none, none => s
  | none, some y => s ++ [⟨y.f0, y.f1, false⟩]
  | some x, some y => if sameB x.f1 y.f1 then s else s ++ [⟨y.f0, y.f1, false⟩]
abbrev InvB := OutI kChg 96 75 48
set_option maxHeartbeats 4000000 in
set_option maxRecDepth 100000 in
theorem between1_one (w0 : World) (gb r : Nat) (s : List ChgS) (ad : Addr) (x : RowS) (W : World) (hi : InvB w0 gb (r + 1) s W) (hx : ElAt kRow w0 ad x) :
    Calls Try.prog 109 #[.pointer (some ad), .pointer none, .pointer (some ⟨gb, 0, none⟩)] W fun e w' => e = .returned (.tuple #[]) ∧ InvB w0 gb r (stepB s (some x) none) w' := by
  obtain ⟨⟨vo, hg0, hs0⟩, hb0, hog, hl0⟩ := hi
  have HOG := Lib.hid hog
  have HG3 := Lib.hid (blk_call (below_drew (Below.refl W.heap.size W)) hg0)
  have HB3 := Lib.hid (below_step hb0 (below_drew (Below.refl W.heap.size W)))
  have HS3 := Lib.hid (Kd.S_drew hs0)
  have HL := Lib.hid hl0
  obtain ⟨Ax, cx, _, _, hX⟩ := elRow2 hx
  have HX := Lib.hid hX
  clear hX hx hg0 hs0 hb0 hog hl0
  go_enter Try.func109, Try.ntmps109
  go_upto_region 1 with (fail)
  · skip
    refine start_ (n := 9) (S := fun w' => w'.heap[gb]? = some (.cells #[vo] 75 (0, 0)) ∧ w'.cell? ad = some (.string x.f0)) (ds := [8]) #[false, false, false, false, false, false, false, false, false] (by kernel_rfl) rfl rfl ⟨HG3.out, (HX.out _ HB3.out).1⟩ (fun hHeld => ?_)
    generalize W.drew = W3 at HG3 HB3 HS3 hHeld ⊢
    have HS4 := Lib.hid (Kd.S_bound HS3.out)
    refine pure_ (i := 1) (N := some 9) (v := ?_) (a' := ?_) #[false, true, false, false, false, false, false, false, false] rfl rfl (by kernel_rfl) (fun _ _ _ h => h) (Or.inl ⟨by rfl, ?_⟩) ?_ ?_
    rotate_left
    · intro w'
      go_simp
      with_reducible rfl
    rotate_left
    · simp only [Act.put, List.setIfInBounds_toArray, List.set_cons_zero, List.set_cons_succ, i64_w, i32_w]
      rfl
    refine pure_ (i := 2) (N := some 10) (v := ?_) (a' := ?_) #[false, true, true, false, false, false, false, false, false] rfl rfl (by kernel_rfl) (fun _ _ _ h => h) (Or.inl ⟨by rfl, ?_⟩) ?_ ?_
    rotate_left
    · intro w'
      go_simp
      with_reducible rfl
    rotate_left
    · simp only [Act.put, List.setIfInBounds_toArray, List.set_cons_zero, List.set_cons_succ, i64_w, i32_w]
      rfl
    refine pure_ (i := 3) (N := some 11) (v := ?_) (a' := ?_) #[false, true, true, true, false, false, false, false, false] rfl rfl (by kernel_rfl) (fun _ _ _ h => h) (Or.inl ⟨by rfl, ?_⟩) ?_ ?_
    rotate_left
    · intro w'
      go_simp
      with_reducible rfl
    rotate_left
    · simp only [Act.put, List.setIfInBounds_toArray, List.set_cons_zero, List.set_cons_succ, i64_w, i32_w]
      rfl
    refine take_ (i := 4) (N := some 12) (v := ?_) (a' := ?_) #[false, true, true, true, true, false, false, false, false] rfl rfl (by kernel_rfl) (fun _ _ _ h => h) (Or.inl ⟨by rfl, ?_⟩) hHeld ?_ ?_
    rotate_left
    · rintro w' ⟨s0, s1⟩
      go_simp
      with_reducible rfl
    rotate_left
    · simp only [Act.put, List.setIfInBounds_toArray, List.set_cons_zero, List.set_cons_succ, i64_w, i32_w]
      rfl
    refine take_ (i := 0) (N := some 8) (v := ?_) (a' := ?_) #[true, true, true, true, true, false, false, false, false] rfl rfl (by kernel_rfl) (fun _ _ _ h => h) (Or.inl ⟨by rfl, ?_⟩) hHeld ?_ ?_
    rotate_left
    · rintro w' ⟨s0, s1⟩
      have hc0 := blk_cell0 s0
      go_simp
      with_reducible rfl
    rotate_left
    · simp only [Act.put, List.setIfInBounds_toArray, List.set_cons_zero, List.set_cons_succ, i64_w, i32_w]
      rfl
    refine pure_ (i := 5) (N := some 13) (v := ?_) (a' := ?_) #[true, true, true, true, true, true, false, false, false] rfl rfl (by kernel_rfl) (fun _ _ _ h => h) (Or.inl ⟨by rfl, ?_⟩) ?_ ?_
    rotate_left
    · intro w'
      go_simp
      with_reducible rfl
    rotate_left
    · simp only [Act.put, List.setIfInBounds_toArray, List.set_cons_zero, List.set_cons_succ, i64_w, i32_w]
      rfl
    refine one_ (i := 6) (N := some 14) #[true, true, true, true, true, true, true, false, false] rfl rfl (by kernel_rfl) (by decide) (fun K hK => ?_)
    refine value_ (w1 := ?_) (v := ?_) (by rfl) rfl ?_ ?_
    rotate_left 2
    · go_simp
      constructor
      · rfl
      · rfl
    have HG5 := Lib.hid ((Below.heap_alloc W3 (.cells #[.string x.f0, .slice none 0 0, .bool true] 96 (0, 0)) gb (blk_lt HG3.out)).trans HG3.out)
    have HB5 := Lib.hid (HB3.out.alloc HB3.out.size (.cells #[.string x.f0, .slice none 0 0, .bool true] 96 (0, 0)))
    refine hK.out _ _ (⟨HG5.out, (HX.out _ HB5.out).1⟩) (fun hHeld => ?_)
    clear hK K
    refine norm_ (a' := ?_) ?_ ?_
    rotate_left
    · show Act.put _ (some 14) _ = _
      simp only [Act.put, List.setIfInBounds_toArray, List.set_cons_zero, List.set_cons_succ, i64_w, i32_w]
      rfl
    refine one_ (i := 7) (N := some 15) #[true, true, true, true, true, true, true, true, false] rfl rfl (by kernel_rfl) (by decide) (fun K hK => ?_)
    refine Kd.S_append_step kChg (w0 := w0) w0.heap.size (by rfl) (.tmp 8) (.tmp 14) 75 96 (.agg #[(.string ⟨#[]⟩), (.slice none 0 0), (.bool false)]) 48 rfl Try.underlying75 info96 rfl (by decide) (by omega) vo s (⟨x.f0, [], true⟩ : ChgS) [.string x.f0, .slice none 0 0, .bool true] (fun k => k ≠ gb) (fun k_ => W3.heap.size ≤ k_ ∧ False) rfl rfl ?aP ?aok ?aF ?aO ?aB ?aS ?aL ?_
    (case aP => exact (k96_mkM _ _ _ (⟨x.f0, [], true⟩ : ChgS) (Kd.R_nil _ _ _ _ _)))
    (case aok => exact (fun k hk => ⟨fun he => by have h1 := blk_lt HG3.out; have h2 := hk.1; omega, fun he => by have h1 := Kd.S_lt HS3.out k he.symm; have h2 := hk.1; omega⟩))
    (case aF => exact (fun k hk => fun he => by have h1 := blk_lt HG3.out; omega))
    (case aO => exact Kd.S_mono HS4.out (fun k hk => ⟨hk.1, fun h2 => by have h3 := hk.2.2.1; have h4 := h2.1; omega⟩))
    (case aB => exact HB3.out)
    (case aS => exact HB3.out.size)
    (case aL => have := HL.out; omega)
    intro v6 W6 ho hb hg hat
    have HS6 := Lib.hid ho
    have HB6 := Lib.hid hb
    have HG6 := Lib.hid ((hg.block gb (blk_lt HG3.out) (Kd.S_away HS4.out (fun k hk => hk.1))).trans HG3.out)
    clear ho hb hg hat
    refine hK.out _ _ (⟨HG6.out, (HX.out _ HB6.out).1⟩) (fun hHeld => ?_)
    clear hK K
    refine norm_ (a' := ?_) ?_ ?_
    rotate_left
    · show Act.put _ (some 15) _ = _
      simp only [Act.put, List.setIfInBounds_toArray, List.set_cons_zero, List.set_cons_succ, i64_w, i32_w]
      rfl
    refine last_ (i := 8) (N := none) #[true, true, true, true, true, true, true, true, true] rfl rfl (by kernel_rfl) (by decide) (fun K hK => ?_)
    obtain ⟨A6, n6, c6, hv6⟩ : ∃ A n c, v6 = Value.slice A n c := by obtain ⟨A, c, e⟩ := Kd.S_slice HS6.out; exact ⟨A, _, c, e⟩
    subst hv6
    have hc0 := blk_cell0 HG6.out
    have hf0 := blk_frozen0 HG6.out
    refine skip_ (w1 := ?_) (by rfl) rfl ?_ ?_
    rotate_left 1
    · go_simp
      rfl
    refine hK.out _ _ ?_
    clear hK K hc0 hf0
    refine done_ (by kernel_rfl) ?_
    go_wp2_with (fail)
    refine bodyPost_end (results_none rfl _ _ _) rfl ⟨rfl, ?_⟩
    exact ⟨⟨_, heap_setCell_in HG6.out 0 _, Kd.S_far HS6.out (fun k hk => hk) _⟩, below_set HB6.out HOG.out, HOG.out, app_len _ HL.out⟩
set_option maxHeartbeats 4000000 in
set_option maxRecDepth 100000 in
theorem between1_two (w0 : World) (gb r : Nat) (s : List ChgS) (bd : Addr) (y : RowS) (W : World) (hi : InvB w0 gb (r + 1) s W) (hy : ElAt kRow w0 bd y) (hpy : y.f1.length ≤ 524288) :
    Calls Try.prog 109 #[.pointer none, .pointer (some bd), .pointer (some ⟨gb, 0, none⟩)] W fun e w' => e = .returned (.tuple #[]) ∧ InvB w0 gb r (stepB s none (some y)) w' := by
  obtain ⟨Ax, cx, _, hcx, hX⟩ := elRow2 hy
  have HX := Lib.hid hX
  have HCX := Lib.hid hcx
  have HPX := Lib.hid hpy
  have HI0 := Lib.hid hi
  clear hX hcx hpy hy hi
  go_enter Try.func109, Try.ntmps109
  go_upto_region 2 with (fail)
  · skip
    refine start_ (n := 15) (S := fun w' => True) (ds := []) #[false, false, false, false, false, false, false, false, false, false, false, false, false, false, false] (by kernel_rfl) rfl rfl trivial (fun hHeld => ?_)
    refine pure_ (i := 0) (N := some 17) (v := ?_) (a' := ?_) #[true, false, false, false, false, false, false, false, false, false, false, false, false, false, false] rfl rfl (by kernel_rfl) (fun _ _ _ h => h) (Or.inl ⟨by rfl, ?_⟩) ?_ ?_
    rotate_left
    · intro w'
      go_simp
      with_reducible rfl
    rotate_left
    · simp only [Act.put, List.setIfInBounds_toArray, List.set_cons_zero, List.set_cons_succ, i64_w, i32_w]
      rfl
    refine pure_ (i := 1) (N := some 18) (v := ?_) (a' := ?_) #[true, true, false, false, false, false, false, false, false, false, false, false, false, false, false] rfl rfl (by kernel_rfl) (fun _ _ _ h => h) (Or.inl ⟨by rfl, ?_⟩) ?_ ?_
    rotate_left
    · intro w'
      go_simp
      with_reducible rfl
    rotate_left
    · simp only [Act.put, List.setIfInBounds_toArray, List.set_cons_zero, List.set_cons_succ, i64_w, i32_w]
      rfl
    refine pure_ (i := 2) (N := some 19) (v := ?_) (a' := ?_) #[true, true, true, false, false, false, false, false, false, false, false, false, false, false, false] rfl rfl (by kernel_rfl) (fun _ _ _ h => h) (Or.inl ⟨by rfl, ?_⟩) ?_ ?_
    rotate_left
    · intro w'
      go_simp
      with_reducible rfl
    rotate_left
    · simp only [Act.put, List.setIfInBounds_toArray, List.set_cons_zero, List.set_cons_succ, i64_w, i32_w]
      rfl
    refine pure_ (i := 3) (N := some 20) (v := undef) (a' := ?_) #[true, true, true, true, false, false, false, false, false, false, false, false, false, false, false] rfl rfl (by kernel_rfl) (fun _ _ _ h => h) (Or.inr ⟨by rfl, rfl⟩) ?_ ?_
    rotate_left
    · simp only [Act.put, List.setIfInBounds_toArray, List.set_cons_zero, List.set_cons_succ, i64_w, i32_w]
      rfl
    refine pure_ (i := 4) (N := some 21) (v := undef) (a' := ?_) #[true, true, true, true, true, false, false, false, false, false, false, false, false, false, false] rfl rfl (by kernel_rfl) (fun _ _ _ h => h) (Or.inr ⟨by rfl, rfl⟩) ?_ ?_
    rotate_left
    · simp only [Act.put, List.setIfInBounds_toArray, List.set_cons_zero, List.set_cons_succ, i64_w, i32_w]
      rfl
    refine pure_ (i := 5) (N := some 22) (v := undef) (a' := ?_) #[true, true, true, true, true, true, false, false, false, false, false, false, false, false, false] rfl rfl (by kernel_rfl) (fun _ _ _ h => h) (Or.inr ⟨by rfl, rfl⟩) ?_ ?_
    rotate_left
    · simp only [Act.put, List.setIfInBounds_toArray, List.set_cons_zero, List.set_cons_succ, i64_w, i32_w]
      rfl
    refine pure_ (i := 6) (N := some 23) (v := undef) (a' := ?_) #[true, true, true, true, true, true, true, false, false, false, false, false, false, false, false] rfl rfl (by kernel_rfl) (fun _ _ _ h => h) (Or.inr ⟨by rfl, rfl⟩) ?_ ?_
    rotate_left
    · simp only [Act.put, List.setIfInBounds_toArray, List.set_cons_zero, List.set_cons_succ, i64_w, i32_w]
      rfl
    refine pure_ (i := 7) (N := some 24) (v := undef) (a' := ?_) #[true, true, true, true, true, true, true, true, false, false, false, false, false, false, false] rfl rfl (by kernel_rfl) (fun _ _ _ h => h) (Or.inr ⟨by rfl, rfl⟩) ?_ ?_
    rotate_left
    · simp only [Act.put, List.setIfInBounds_toArray, List.set_cons_zero, List.set_cons_succ, i64_w, i32_w]
      rfl
    refine pure_ (i := 8) (N := some 25) (v := undef) (a' := ?_) #[true, true, true, true, true, true, true, true, true, false, false, false, false, false, false] rfl rfl (by kernel_rfl) (fun _ _ _ h => h) (Or.inr ⟨by rfl, rfl⟩) ?_ ?_
    rotate_left
    · simp only [Act.put, List.setIfInBounds_toArray, List.set_cons_zero, List.set_cons_succ, i64_w, i32_w]
      rfl
    refine pure_ (i := 9) (N := some 26) (v := undef) (a' := ?_) #[true, true, true, true, true, true, true, true, true, true, false, false, false, false, false] rfl rfl (by kernel_rfl) (fun _ _ _ h => h) (Or.inr ⟨by rfl, rfl⟩) ?_ ?_
    rotate_left
    · simp only [Act.put, List.setIfInBounds_toArray, List.set_cons_zero, List.set_cons_succ, i64_w, i32_w]
      rfl
    refine pure_ (i := 10) (N := some 27) (v := undef) (a' := ?_) #[true, true, true, true, true, true, true, true, true, true, true, false, false, false, false] rfl rfl (by kernel_rfl) (fun _ _ _ h => h) (Or.inr ⟨by rfl, rfl⟩) ?_ ?_
    rotate_left
    · simp only [Act.put, List.setIfInBounds_toArray, List.set_cons_zero, List.set_cons_succ, i64_w, i32_w]
      rfl
    refine pure_ (i := 11) (N := some 28) (v := undef) (a' := ?_) #[true, true, true, true, true, true, true, true, true, true, true, true, false, false, false] rfl rfl (by kernel_rfl) (fun _ _ _ h => h) (Or.inr ⟨by rfl, rfl⟩) ?_ ?_
    rotate_left
    · simp only [Act.put, List.setIfInBounds_toArray, List.set_cons_zero, List.set_cons_succ, i64_w, i32_w]
      rfl
    refine pure_ (i := 12) (N := some 29) (v := undef) (a' := ?_) #[true, true, true, true, true, true, true, true, true, true, true, true, true, false, false] rfl rfl (by kernel_rfl) (fun _ _ _ h => h) (Or.inr ⟨by rfl, rfl⟩) ?_ ?_
    rotate_left
    · simp only [Act.put, List.setIfInBounds_toArray, List.set_cons_zero, List.set_cons_succ, i64_w, i32_w]
      rfl
    refine pure_ (i := 13) (N := some 30) (v := ?_) (a' := ?_) #[true, true, true, true, true, true, true, true, true, true, true, true, true, true, false] rfl rfl (by kernel_rfl) (fun _ _ _ h => h) (Or.inl ⟨by rfl, ?_⟩) ?_ ?_
    rotate_left
    · intro w'
      go_simp
      with_reducible rfl
    rotate_left
    · simp only [Act.put, List.setIfInBounds_toArray, List.set_cons_zero, List.set_cons_succ, i64_w, i32_w]
      rfl
    refine pure_ (i := 14) (N := some 16) (v := ?_) (a' := ?_) #[true, true, true, true, true, true, true, true, true, true, true, true, true, true, true] rfl rfl (by kernel_rfl) (fun _ _ _ h => h) (Or.inl ⟨by rfl, ?_⟩) ?_ ?_
    rotate_left
    · intro w'
      go_simp
      with_reducible rfl
    rotate_left
    · simp only [Act.put, List.setIfInBounds_toArray, List.set_cons_zero, List.set_cons_succ, i64_w, i32_w]
      rfl
    refine done_ (by kernel_rfl) ?_
    have hi := HI0.out.later (below_drew (Below.refl W.heap.size W))
    generalize W.drew = W at hi ⊢
    go_upto_region 3 with (fail)
    · skip
      obtain ⟨⟨vo, hg0, hs0⟩, hb0, hog, hl0⟩ := hi
      have HOG := Lib.hid hog
      have HG3 := Lib.hid (blk_call (below_drew (Below.refl W.heap.size W)) hg0)
      have HB3 := Lib.hid (below_step hb0 (below_drew (Below.refl W.heap.size W)))
      have HS3 := Lib.hid (Kd.S_drew hs0)
      have HL := Lib.hid hl0
      refine start_ (n := 14) (S := fun w' => w'.heap[gb]? = some (.cells #[vo] 75 (0, 0)) ∧ w'.cell? bd = some (.string y.f0) ∧ w'.cell? ⟨bd.block, bd.off + 1, none⟩ = some (.slice Ax y.f1.length cx)) (ds := [13]) #[false, false, false, false, false, false, false, false, false, false, false, false, false, false] (by kernel_rfl) rfl rfl ⟨HG3.out, (HX.out _ HB3.out).1, (HX.out _ HB3.out).2⟩ (fun hHeld => ?_)
      generalize W.drew = W3 at HG3 HB3 HS3 hHeld ⊢
      refine pure_ (i := 1) (N := some 32) (v := ?_) (a' := ?_) #[false, true, false, false, false, false, false, false, false, false, false, false, false, false] rfl rfl (by kernel_rfl) (fun _ _ _ h => h) (Or.inl ⟨by rfl, ?_⟩) ?_ ?_
      rotate_left
      · intro w'
        go_simp
        with_reducible rfl
      rotate_left
      · simp only [Act.put, List.setIfInBounds_toArray, List.set_cons_zero, List.set_cons_succ, i64_w, i32_w]
        rfl
      refine pure_ (i := 2) (N := some 33) (v := ?_) (a' := ?_) #[false, true, true, false, false, false, false, false, false, false, false, false, false, false] rfl rfl (by kernel_rfl) (fun _ _ _ h => h) (Or.inl ⟨by rfl, ?_⟩) ?_ ?_
      rotate_left
      · intro w'
        go_simp
        with_reducible rfl
      rotate_left
      · simp only [Act.put, List.setIfInBounds_toArray, List.set_cons_zero, List.set_cons_succ, i64_w, i32_w]
        rfl
      refine pure_ (i := 3) (N := some 34) (v := ?_) (a' := ?_) #[false, true, true, true, false, false, false, false, false, false, false, false, false, false] rfl rfl (by kernel_rfl) (fun _ _ _ h => h) (Or.inl ⟨by rfl, ?_⟩) ?_ ?_
      rotate_left
      · intro w'
        go_simp
        with_reducible rfl
      rotate_left
      · simp only [Act.put, List.setIfInBounds_toArray, List.set_cons_zero, List.set_cons_succ, i64_w, i32_w]
        rfl
      refine pure_ (i := 5) (N := some 36) (v := ?_) (a' := ?_) #[false, true, true, true, false, true, false, false, false, false, false, false, false, false] rfl rfl (by kernel_rfl) (fun _ _ _ h => h) (Or.inl ⟨by rfl, ?_⟩) ?_ ?_
      rotate_left
      · intro w'
        go_simp
        with_reducible rfl
      rotate_left
      · simp only [Act.put, List.setIfInBounds_toArray, List.set_cons_zero, List.set_cons_succ, i64_w, i32_w]
        rfl
      refine pure_ (i := 6) (N := some 37) (v := ?_) (a' := ?_) #[false, true, true, true, false, true, true, false, false, false, false, false, false, false] rfl rfl (by kernel_rfl) (fun _ _ _ h => h) (Or.inl ⟨by rfl, ?_⟩) ?_ ?_
      rotate_left
      · intro w'
        go_simp
        with_reducible rfl
      rotate_left
      · simp only [Act.put, List.setIfInBounds_toArray, List.set_cons_zero, List.set_cons_succ, i64_w, i32_w]
        rfl
      refine pure_ (i := 7) (N := some 38) (v := ?_) (a' := ?_) #[false, true, true, true, false, true, true, true, false, false, false, false, false, false] rfl rfl (by kernel_rfl) (fun _ _ _ h => h) (Or.inl ⟨by rfl, ?_⟩) ?_ ?_
      rotate_left
      · intro w'
        go_simp
        with_reducible rfl
      rotate_left
      · simp only [Act.put, List.setIfInBounds_toArray, List.set_cons_zero, List.set_cons_succ, i64_w, i32_w]
        rfl
      refine take_ (i := 4) (N := some 35) (v := ?_) (a' := ?_) #[false, true, true, true, true, true, true, true, false, false, false, false, false, false] rfl rfl (by kernel_rfl) (fun _ _ _ h => h) (Or.inl ⟨by rfl, ?_⟩) hHeld ?_ ?_
      rotate_left
      · rintro w' ⟨s0, s1, s2⟩
        go_simp
        with_reducible rfl
      rotate_left
      · simp only [Act.put, List.setIfInBounds_toArray, List.set_cons_zero, List.set_cons_succ, i64_w, i32_w]
        rfl
      refine take_ (i := 0) (N := some 31) (v := ?_) (a' := ?_) #[true, true, true, true, true, true, true, true, false, false, false, false, false, false] rfl rfl (by kernel_rfl) (fun _ _ _ h => h) (Or.inl ⟨by rfl, ?_⟩) hHeld ?_ ?_
      rotate_left
      · rintro w' ⟨s0, s1, s2⟩
        have hc0 := blk_cell0 s0
        go_simp
        with_reducible rfl
      rotate_left
      · simp only [Act.put, List.setIfInBounds_toArray, List.set_cons_zero, List.set_cons_succ, i64_w, i32_w]
        rfl
      refine take_ (i := 8) (N := some 39) (v := ?_) (a' := ?_) #[true, true, true, true, true, true, true, true, true, false, false, false, false, false] rfl rfl (by kernel_rfl) (fun _ _ _ h => h) (Or.inl ⟨by rfl, ?_⟩) hHeld ?_ ?_
      rotate_left
      · rintro w' ⟨s0, s1, s2⟩
        go_simp
        with_reducible rfl
      rotate_left
      · simp only [Act.put, List.setIfInBounds_toArray, List.set_cons_zero, List.set_cons_succ, i64_w, i32_w]
        rfl
      refine one_ (i := 9) (N := some 40) #[true, true, true, true, true, true, true, true, true, true, false, false, false, false] rfl rfl (by kernel_rfl) (by decide) (fun K hK => ?_)
      refine goes_ Try.func103 (by kernel_rfl) rfl #[.slice Ax y.f1.length cx] (by rfl) rfl rfl (by (try simp only [List.map_toArray, List.map_cons, List.map_nil]); first | done | rfl) ?_
      refine (clone_calls Ax cx y.f1 _ (Kd.C_below HCX.out HB3.out) (by have := HPX.out; omega)).mono ?_
      rintro e W4 ⟨v5, rfl, hr5, hb5⟩
      have HB4 := Lib.hid (below_step HB3.out hb5)
      have HG4 := Lib.hid (blk_call hb5 HG3.out)
      have HS4 := Lib.hid (Kd.S_below (Kd.S_bound HS3.out) hb5)
      have HV := Lib.hid (Kd.R_lower (Kd.R_newM (M := fun k_ => W3.heap.size ≤ k_) hr5 (Nat.le_refl _) (fun k_ h_ => h_)) HB3.out.size)
      have HZ4 := Lib.hid hb5.size
      clear hr5 hb5
      obtain ⟨A5, c5, rfl⟩ := Kd.R_slice HV.out
      refine ⟨_, rfl, ?_⟩
      refine hK.out _ _ (⟨HG4.out, (HX.out _ HB4.out).1, (HX.out _ HB4.out).2⟩) (fun hHeld => ?_)
      clear hK K
      refine norm_ (a' := ?_) ?_ ?_
      rotate_left
      · show Act.put _ (some 40) _ = _
        simp only [Act.put, List.setIfInBounds_toArray, List.set_cons_zero, List.set_cons_succ, i64_w, i32_w]
        rfl
      refine pure_ (i := 10) (N := some 41) (v := ?_) (a' := ?_) #[true, true, true, true, true, true, true, true, true, true, true, false, false, false] rfl rfl (by kernel_rfl) (fun _ _ _ h => h) (Or.inl ⟨by rfl, ?_⟩) ?_ ?_
      rotate_left
      · intro w'
        go_simp
        with_reducible rfl
      rotate_left
      · simp only [Act.put, List.setIfInBounds_toArray, List.set_cons_zero, List.set_cons_succ, i64_w, i32_w]
        rfl
      refine one_ (i := 11) (N := some 42) #[true, true, true, true, true, true, true, true, true, true, true, true, false, false] rfl rfl (by kernel_rfl) (by decide) (fun K hK => ?_)
      refine value_ (w1 := ?_) (v := ?_) (by rfl) rfl ?_ ?_
      rotate_left 2
      · go_simp
        constructor
        · rfl
        · rfl
      have HG5 := Lib.hid ((Below.heap_alloc W4 (.cells #[.string y.f0, .slice A5 y.f1.length c5, .bool false] 96 (0, 0)) gb (blk_lt HG4.out)).trans HG4.out)
      have HB5 := Lib.hid (HB4.out.alloc HB4.out.size (.cells #[.string y.f0, .slice A5 y.f1.length c5, .bool false] 96 (0, 0)))
      refine hK.out _ _ (⟨HG5.out, (HX.out _ HB5.out).1, (HX.out _ HB5.out).2⟩) (fun hHeld => ?_)
      clear hK K
      refine norm_ (a' := ?_) ?_ ?_
      rotate_left
      · show Act.put _ (some 42) _ = _
        simp only [Act.put, List.setIfInBounds_toArray, List.set_cons_zero, List.set_cons_succ, i64_w, i32_w]
        rfl
      refine one_ (i := 12) (N := some 43) #[true, true, true, true, true, true, true, true, true, true, true, true, true, false] rfl rfl (by kernel_rfl) (by decide) (fun K hK => ?_)
      refine Kd.S_append_step kChg (w0 := w0) w0.heap.size (by rfl) (.tmp 31) (.tmp 42) 75 96 (.agg #[(.string ⟨#[]⟩), (.slice none 0 0), (.bool false)]) 48 rfl Try.underlying75 info96 rfl (by decide) (by omega) vo s (⟨y.f0, y.f1, false⟩ : ChgS) [.string y.f0, .slice A5 y.f1.length c5, .bool false] (fun k => k ≠ gb) (fun k_ => W3.heap.size ≤ k_ ∧ True) rfl rfl ?aP ?aok ?aF ?aO ?aB ?aS ?aL ?_
      (case aP => exact (k96_mkM _ _ _ (⟨y.f0, y.f1, false⟩ : ChgS) HV.out))
      (case aok => exact (fun k hk => ⟨fun he => by have h1 := blk_lt HG3.out; have h2 := hk.1; omega, fun he => by have h1 := Kd.S_lt HS3.out k he.symm; have h2 := hk.1; omega⟩))
      (case aF => exact (fun k hk => fun he => by have h1 := blk_lt HG4.out; omega))
      (case aO => exact Kd.S_mono HS4.out (fun k hk => ⟨hk.1, fun h2 => by have h3 := hk.2.2.1; have h4 := h2.1; omega⟩))
      (case aB => exact HB4.out)
      (case aS => exact HB4.out.size)
      (case aL => have := HL.out; omega)
      intro v6 W6 ho hb hg hat
      have HS6 := Lib.hid ho
      have HB6 := Lib.hid hb
      have HG6 := Lib.hid ((hg.block gb (blk_lt HG4.out) (Kd.S_away HS4.out (fun k hk => hk.1))).trans HG4.out)
      clear ho hb hg hat
      refine hK.out _ _ (⟨HG6.out, (HX.out _ HB6.out).1, (HX.out _ HB6.out).2⟩) (fun hHeld => ?_)
      clear hK K
      refine norm_ (a' := ?_) ?_ ?_
      rotate_left
      · show Act.put _ (some 43) _ = _
        simp only [Act.put, List.setIfInBounds_toArray, List.set_cons_zero, List.set_cons_succ, i64_w, i32_w]
        rfl
      refine last_ (i := 13) (N := none) #[true, true, true, true, true, true, true, true, true, true, true, true, true, true] rfl rfl (by kernel_rfl) (by decide) (fun K hK => ?_)
      obtain ⟨A6, n6, c6, hv6⟩ : ∃ A n c, v6 = Value.slice A n c := by obtain ⟨A, c, e⟩ := Kd.S_slice HS6.out; exact ⟨A, _, c, e⟩
      subst hv6
      have hc0 := blk_cell0 HG6.out
      have hf0 := blk_frozen0 HG6.out
      refine skip_ (w1 := ?_) (by rfl) rfl ?_ ?_
      rotate_left 1
      · go_simp
        rfl
      refine hK.out _ _ ?_
      clear hK K hc0 hf0
      refine done_ (by kernel_rfl) ?_
      go_wp2_with (fail)
      refine bodyPost_end (results_none rfl _ _ _) rfl ⟨rfl, ?_⟩
      exact ⟨⟨_, heap_setCell_in HG6.out 0 _, Kd.S_far HS6.out (fun k hk => hk) _⟩, below_set HB6.out HOG.out, HOG.out, app_len _ HL.out⟩
set_option maxHeartbeats 4000000 in
set_option maxRecDepth 100000 in
theorem between1_both (w0 : World) (gb r : Nat) (s : List ChgS) (ad : Addr) (x : RowS) (bd : Addr) (y : RowS) (W : World) (hi : InvB w0 gb (r + 1) s W) (hx : ElAt kRow w0 ad x) (hy : ElAt kRow w0 bd y) (hpy : y.f1.length ≤ 524288) :
    Calls Try.prog 109 #[.pointer (some ad), .pointer (some bd), .pointer (some ⟨gb, 0, none⟩)] W fun e w' => e = .returned (.tuple #[]) ∧ InvB w0 gb r (stepB s (some x) (some y)) w' := by
  obtain ⟨Ax, cx, _, hcx, hX⟩ := elRow2 hy
  obtain ⟨Ay, cy, _, hcy, hY⟩ := elRow2 hx
  have HX := Lib.hid hX
  have HCX := Lib.hid hcx
  have HY := Lib.hid hY
  have HCY := Lib.hid hcy
  have HPX := Lib.hid hpy
  have HI0 := Lib.hid hi
  have HBD := Lib.hid (below_step hi.b (below_drew (Below.refl W.heap.size W)))
  have HI1 := Lib.hid (hi.later (below_drew (Below.refl W.heap.size W)))
  have hst : stepB s (some x) (some y) = if sameB x.f1 y.f1 then s else s ++ [⟨y.f0, y.f1, false⟩] := rfl
  have HST := Lib.hid hst
  obtain ⟨b, hb⟩ : ∃ b, sameB x.f1 y.f1 = b := ⟨_, rfl⟩
  have HSB := Lib.hid hb
  rw [hb] at hst
  rw [hst]
  clear hX hcx hpy hy hi hY hcy hx hb
  go_enter Try.func109, Try.ntmps109
  go_upto_region 2 with (fail)
  · skip
    refine start_ (n := 15) (S := fun w' => w'.cell? ⟨ad.block, ad.off + 1, none⟩ = some (.slice Ay x.f1.length cy) ∧ w'.cell? ⟨bd.block, bd.off + 1, none⟩ = some (.slice Ax y.f1.length cx)) (ds := []) #[false, false, false, false, false, false, false, false, false, false, false, false, false, false, false] (by kernel_rfl) rfl rfl ⟨(HY.out _ HBD.out).2, (HX.out _ HBD.out).2⟩ (fun hHeld => ?_)
    generalize W.drew = Wd at HBD HI1 hHeld ⊢
    refine pure_ (i := 0) (N := some 17) (v := ?_) (a' := ?_) #[true, false, false, false, false, false, false, false, false, false, false, false, false, false, false] rfl rfl (by kernel_rfl) (fun _ _ _ h => h) (Or.inl ⟨by rfl, ?_⟩) ?_ ?_
    rotate_left
    · intro w'
      go_simp
      with_reducible rfl
    rotate_left
    · simp only [Act.put, List.setIfInBounds_toArray, List.set_cons_zero, List.set_cons_succ, i64_w, i32_w]
      rfl
    refine pure_ (i := 1) (N := some 18) (v := ?_) (a' := ?_) #[true, true, false, false, false, false, false, false, false, false, false, false, false, false, false] rfl rfl (by kernel_rfl) (fun _ _ _ h => h) (Or.inl ⟨by rfl, ?_⟩) ?_ ?_
    rotate_left
    · intro w'
      go_simp
      with_reducible rfl
    rotate_left
    · simp only [Act.put, List.setIfInBounds_toArray, List.set_cons_zero, List.set_cons_succ, i64_w, i32_w]
      rfl
    refine pure_ (i := 2) (N := some 19) (v := ?_) (a' := ?_) #[true, true, true, false, false, false, false, false, false, false, false, false, false, false, false] rfl rfl (by kernel_rfl) (fun _ _ _ h => h) (Or.inl ⟨by rfl, ?_⟩) ?_ ?_
    rotate_left
    · intro w'
      go_simp
      with_reducible rfl
    rotate_left
    · simp only [Act.put, List.setIfInBounds_toArray, List.set_cons_zero, List.set_cons_succ, i64_w, i32_w]
      rfl
    refine pure_ (i := 3) (N := some 20) (v := ?_) (a' := ?_) #[true, true, true, true, false, false, false, false, false, false, false, false, false, false, false] rfl rfl (by kernel_rfl) (fun _ _ _ h => h) (Or.inl ⟨by rfl, ?_⟩) ?_ ?_
    rotate_left
    · intro w'
      go_simp
      with_reducible rfl
    rotate_left
    · simp only [Act.put, List.setIfInBounds_toArray, List.set_cons_zero, List.set_cons_succ, i64_w, i32_w]
      rfl
    refine pure_ (i := 4) (N := some 21) (v := ?_) (a' := ?_) #[true, true, true, true, true, false, false, false, false, false, false, false, false, false, false] rfl rfl (by kernel_rfl) (fun _ _ _ h => h) (Or.inl ⟨by rfl, ?_⟩) ?_ ?_
    rotate_left
    · intro w'
      go_simp
      with_reducible rfl
    rotate_left
    · simp only [Act.put, List.setIfInBounds_toArray, List.set_cons_zero, List.set_cons_succ, i64_w, i32_w]
      rfl
    refine pure_ (i := 5) (N := some 22) (v := ?_) (a' := ?_) #[true, true, true, true, true, true, false, false, false, false, false, false, false, false, false] rfl rfl (by kernel_rfl) (fun _ _ _ h => h) (Or.inl ⟨by rfl, ?_⟩) ?_ ?_
    rotate_left
    · intro w'
      go_simp
      with_reducible rfl
    rotate_left
    · simp only [Act.put, List.setIfInBounds_toArray, List.set_cons_zero, List.set_cons_succ, i64_w, i32_w]
      rfl
    refine pure_ (i := 7) (N := some 24) (v := ?_) (a' := ?_) #[true, true, true, true, true, true, false, true, false, false, false, false, false, false, false] rfl rfl (by kernel_rfl) (fun _ _ _ h => h) (Or.inl ⟨by rfl, ?_⟩) ?_ ?_
    rotate_left
    · intro w'
      go_simp
      with_reducible rfl
    rotate_left
    · simp only [Act.put, List.setIfInBounds_toArray, List.set_cons_zero, List.set_cons_succ, i64_w, i32_w]
      rfl
    refine pure_ (i := 8) (N := some 25) (v := ?_) (a' := ?_) #[true, true, true, true, true, true, false, true, true, false, false, false, false, false, false] rfl rfl (by kernel_rfl) (fun _ _ _ h => h) (Or.inl ⟨by rfl, ?_⟩) ?_ ?_
    rotate_left
    · intro w'
      go_simp
      with_reducible rfl
    rotate_left
    · simp only [Act.put, List.setIfInBounds_toArray, List.set_cons_zero, List.set_cons_succ, i64_w, i32_w]
      rfl
    refine pure_ (i := 9) (N := some 26) (v := ?_) (a' := ?_) #[true, true, true, true, true, true, false, true, true, true, false, false, false, false, false] rfl rfl (by kernel_rfl) (fun _ _ _ h => h) (Or.inl ⟨by rfl, ?_⟩) ?_ ?_
    rotate_left
    · intro w'
      go_simp
      with_reducible rfl
    rotate_left
    · simp only [Act.put, List.setIfInBounds_toArray, List.set_cons_zero, List.set_cons_succ, i64_w, i32_w]
      rfl
    refine take_ (i := 6) (N := some 23) (v := ?_) (a' := ?_) #[true, true, true, true, true, true, true, true, true, true, false, false, false, false, false] rfl rfl (by kernel_rfl) (fun _ _ _ h => h) (Or.inl ⟨by rfl, ?_⟩) hHeld ?_ ?_
    rotate_left
    · rintro w' ⟨s0, s1⟩
      go_simp
      with_reducible rfl
    rotate_left
    · simp only [Act.put, List.setIfInBounds_toArray, List.set_cons_zero, List.set_cons_succ, i64_w, i32_w]
      rfl
    refine take_ (i := 10) (N := some 27) (v := ?_) (a' := ?_) #[true, true, true, true, true, true, true, true, true, true, true, false, false, false, false] rfl rfl (by kernel_rfl) (fun _ _ _ h => h) (Or.inl ⟨by rfl, ?_⟩) hHeld ?_ ?_
    rotate_left
    · rintro w' ⟨s0, s1⟩
      go_simp
      with_reducible rfl
    rotate_left
    · simp only [Act.put, List.setIfInBounds_toArray, List.set_cons_zero, List.set_cons_succ, i64_w, i32_w]
      rfl
    refine one_ (i := 11) (N := some 28) #[true, true, true, true, true, true, true, true, true, true, true, true, false, false, false] rfl rfl (by kernel_rfl) (by decide) (fun K hK => ?_)
    refine goes_ Try.func110 (by kernel_rfl) rfl #[.slice Ay x.f1.length cy, .slice Ax y.f1.length cx] (by rfl) rfl rfl (by (try simp only [List.map_toArray, List.map_cons, List.map_nil]); first | done | rfl) ?_
    refine (equal_calls Ay Ax x.f1.length y.f1.length cy cx x.f1 y.f1 _ (Kd.C_below HCY.out HBD.out) (Kd.C_below HCX.out HBD.out)).mono ?_
    rintro e W2 ⟨rfl, rfl⟩
    refine ⟨_, rfl, ?_⟩
    refine hK.out _ _ (⟨(HY.out _ HBD.out).2, (HX.out _ HBD.out).2⟩) (fun hHeld => ?_)
    clear hK K
    refine norm_ (a' := ?_) ?_ ?_
    rotate_left
    · show Act.put _ (some 28) _ = _
      simp only [Act.put, List.setIfInBounds_toArray, List.set_cons_zero, List.set_cons_succ, i64_w, i32_w]
      rfl
    refine pure_ (i := 12) (N := some 29) (v := ?_) (a' := ?_) #[true, true, true, true, true, true, true, true, true, true, true, true, true, false, false] rfl rfl (by kernel_rfl) (fun _ _ _ h => h) (Or.inl ⟨by rfl, ?_⟩) ?_ ?_
    rotate_left
    · intro w'
      go_simp
      with_reducible rfl
    rotate_left
    · simp only [Act.put, List.setIfInBounds_toArray, List.set_cons_zero, List.set_cons_succ, i64_w, i32_w]
      rfl
    refine pure_ (i := 13) (N := some 30) (v := ?_) (a' := ?_) #[true, true, true, true, true, true, true, true, true, true, true, true, true, true, false] rfl rfl (by kernel_rfl) (fun _ _ _ h => h) (Or.inl ⟨by rfl, ?_⟩) ?_ ?_
    rotate_left
    · intro w'
      go_simp
      with_reducible rfl
    rotate_left
    · simp only [Act.put, List.setIfInBounds_toArray, List.set_cons_zero, List.set_cons_succ, i64_w, i32_w]
      rfl
    refine pure_ (i := 14) (N := some 16) (v := ?_) (a' := ?_) #[true, true, true, true, true, true, true, true, true, true, true, true, true, true, true] rfl rfl (by kernel_rfl) (fun _ _ _ h => h) (Or.inl ⟨by rfl, ?_⟩) ?_ ?_
    rotate_left
    · intro w'
      go_simp
      with_reducible rfl
    rotate_left
    · simp only [Act.put, List.setIfInBounds_toArray, List.set_cons_zero, List.set_cons_succ, i64_w, i32_w]
      rfl
    refine done_ (by kernel_rfl) ?_
    have hst := HST.out
    rw [HSB.out]
    clear hst HST HSB
    cases b with
    | true =>
      go_wp2_with (fail)
      exact bodyPost_end (results_none rfl _ _ _) rfl ⟨rfl, HI1.out.less⟩
    | false =>
      have hi := HI1.out
      clear HI0 HI1 HBD
      generalize Wd = W at hi ⊢
      go_upto_region 3 with (fail)
      · skip
        obtain ⟨⟨vo, hg0, hs0⟩, hb0, hog, hl0⟩ := hi
        have HOG := Lib.hid hog
        have HG3 := Lib.hid (blk_call (below_drew (Below.refl W.heap.size W)) hg0)
        have HB3 := Lib.hid (below_step hb0 (below_drew (Below.refl W.heap.size W)))
        have HS3 := Lib.hid (Kd.S_drew hs0)
        have HL := Lib.hid hl0
        refine start_ (n := 14) (S := fun w' => w'.heap[gb]? = some (.cells #[vo] 75 (0, 0)) ∧ w'.cell? bd = some (.string y.f0) ∧ w'.cell? ⟨bd.block, bd.off + 1, none⟩ = some (.slice Ax y.f1.length cx)) (ds := [13]) #[false, false, false, false, false, false, false, false, false, false, false, false, false, false] (by kernel_rfl) rfl rfl ⟨HG3.out, (HX.out _ HB3.out).1, (HX.out _ HB3.out).2⟩ (fun hHeld => ?_)
        generalize W.drew = W3 at HG3 HB3 HS3 hHeld ⊢
        refine pure_ (i := 1) (N := some 32) (v := ?_) (a' := ?_) #[false, true, false, false, false, false, false, false, false, false, false, false, false, false] rfl rfl (by kernel_rfl) (fun _ _ _ h => h) (Or.inl ⟨by rfl, ?_⟩) ?_ ?_
        rotate_left
        · intro w'
          go_simp
          with_reducible rfl
        rotate_left
        · simp only [Act.put, List.setIfInBounds_toArray, List.set_cons_zero, List.set_cons_succ, i64_w, i32_w]
          rfl
        refine pure_ (i := 2) (N := some 33) (v := ?_) (a' := ?_) #[false, true, true, false, false, false, false, false, false, false, false, false, false, false] rfl rfl (by kernel_rfl) (fun _ _ _ h => h) (Or.inl ⟨by rfl, ?_⟩) ?_ ?_
        rotate_left
        · intro w'
          go_simp
          with_reducible rfl
        rotate_left
        · simp only [Act.put, List.setIfInBounds_toArray, List.set_cons_zero, List.set_cons_succ, i64_w, i32_w]
          rfl
        refine pure_ (i := 3) (N := some 34) (v := ?_) (a' := ?_) #[false, true, true, true, false, false, false, false, false, false, false, false, false, false] rfl rfl (by kernel_rfl) (fun _ _ _ h => h) (Or.inl ⟨by rfl, ?_⟩) ?_ ?_
        rotate_left
        · intro w'
          go_simp
          with_reducible rfl
        rotate_left
        · simp only [Act.put, List.setIfInBounds_toArray, List.set_cons_zero, List.set_cons_succ, i64_w, i32_w]
          rfl
        refine pure_ (i := 5) (N := some 36) (v := ?_) (a' := ?_) #[false, true, true, true, false, true, false, false, false, false, false, false, false, false] rfl rfl (by kernel_rfl) (fun _ _ _ h => h) (Or.inl ⟨by rfl, ?_⟩) ?_ ?_
        rotate_left
        · intro w'
          go_simp
          with_reducible rfl
        rotate_left
        · simp only [Act.put, List.setIfInBounds_toArray, List.set_cons_zero, List.set_cons_succ, i64_w, i32_w]
          rfl
        refine pure_ (i := 6) (N := some 37) (v := ?_) (a' := ?_) #[false, true, true, true, false, true, true, false, false, false, false, false, false, false] rfl rfl (by kernel_rfl) (fun _ _ _ h => h) (Or.inl ⟨by rfl, ?_⟩) ?_ ?_
        rotate_left
        · intro w'
          go_simp
          with_reducible rfl
        rotate_left
        · simp only [Act.put, List.setIfInBounds_toArray, List.set_cons_zero, List.set_cons_succ, i64_w, i32_w]
          rfl
        refine pure_ (i := 7) (N := some 38) (v := ?_) (a' := ?_) #[false, true, true, true, false, true, true, true, false, false, false, false, false, false] rfl rfl (by kernel_rfl) (fun _ _ _ h => h) (Or.inl ⟨by rfl, ?_⟩) ?_ ?_
        rotate_left
        · intro w'
          go_simp
          with_reducible rfl
        rotate_left
        · simp only [Act.put, List.setIfInBounds_toArray, List.set_cons_zero, List.set_cons_succ, i64_w, i32_w]
          rfl
        refine take_ (i := 4) (N := some 35) (v := ?_) (a' := ?_) #[false, true, true, true, true, true, true, true, false, false, false, false, false, false] rfl rfl (by kernel_rfl) (fun _ _ _ h => h) (Or.inl ⟨by rfl, ?_⟩) hHeld ?_ ?_
        rotate_left
        · rintro w' ⟨s0, s1, s2⟩
          go_simp
          with_reducible rfl
        rotate_left
        · simp only [Act.put, List.setIfInBounds_toArray, List.set_cons_zero, List.set_cons_succ, i64_w, i32_w]
          rfl
        refine take_ (i := 0) (N := some 31) (v := ?_) (a' := ?_) #[true, true, true, true, true, true, true, true, false, false, false, false, false, false] rfl rfl (by kernel_rfl) (fun _ _ _ h => h) (Or.inl ⟨by rfl, ?_⟩) hHeld ?_ ?_
        rotate_left
        · rintro w' ⟨s0, s1, s2⟩
          have hc0 := blk_cell0 s0
          go_simp
          with_reducible rfl
        rotate_left
        · simp only [Act.put, List.setIfInBounds_toArray, List.set_cons_zero, List.set_cons_succ, i64_w, i32_w]
          rfl
        refine take_ (i := 8) (N := some 39) (v := ?_) (a' := ?_) #[true, true, true, true, true, true, true, true, true, false, false, false, false, false] rfl rfl (by kernel_rfl) (fun _ _ _ h => h) (Or.inl ⟨by rfl, ?_⟩) hHeld ?_ ?_
        rotate_left
        · rintro w' ⟨s0, s1, s2⟩
          go_simp
          with_reducible rfl
        rotate_left
        · simp only [Act.put, List.setIfInBounds_toArray, List.set_cons_zero, List.set_cons_succ, i64_w, i32_w]
          rfl
        refine one_ (i := 9) (N := some 40) #[true, true, true, true, true, true, true, true, true, true, false, false, false, false] rfl rfl (by kernel_rfl) (by decide) (fun K hK => ?_)
        refine goes_ Try.func103 (by kernel_rfl) rfl #[.slice Ax y.f1.length cx] (by rfl) rfl rfl (by (try simp only [List.map_toArray, List.map_cons, List.map_nil]); first | done | rfl) ?_
        refine (clone_calls Ax cx y.f1 _ (Kd.C_below HCX.out HB3.out) (by have := HPX.out; omega)).mono ?_
        rintro e W4 ⟨v5, rfl, hr5, hb5⟩
        have HB4 := Lib.hid (below_step HB3.out hb5)
        have HG4 := Lib.hid (blk_call hb5 HG3.out)
        have HS4 := Lib.hid (Kd.S_below (Kd.S_bound HS3.out) hb5)
        have HV := Lib.hid (Kd.R_lower (Kd.R_newM (M := fun k_ => W3.heap.size ≤ k_) hr5 (Nat.le_refl _) (fun k_ h_ => h_)) HB3.out.size)
        have HZ4 := Lib.hid hb5.size
        clear hr5 hb5
        obtain ⟨A5, c5, rfl⟩ := Kd.R_slice HV.out
        refine ⟨_, rfl, ?_⟩
        refine hK.out _ _ (⟨HG4.out, (HX.out _ HB4.out).1, (HX.out _ HB4.out).2⟩) (fun hHeld => ?_)
        clear hK K
        refine norm_ (a' := ?_) ?_ ?_
        rotate_left
        · show Act.put _ (some 40) _ = _
          simp only [Act.put, List.setIfInBounds_toArray, List.set_cons_zero, List.set_cons_succ, i64_w, i32_w]
          rfl
        refine pure_ (i := 10) (N := some 41) (v := ?_) (a' := ?_) #[true, true, true, true, true, true, true, true, true, true, true, false, false, false] rfl rfl (by kernel_rfl) (fun _ _ _ h => h) (Or.inl ⟨by rfl, ?_⟩) ?_ ?_
        rotate_left
        · intro w'
          go_simp
          with_reducible rfl
        rotate_left
        · simp only [Act.put, List.setIfInBounds_toArray, List.set_cons_zero, List.set_cons_succ, i64_w, i32_w]
          rfl
        refine one_ (i := 11) (N := some 42) #[true, true, true, true, true, true, true, true, true, true, true, true, false, false] rfl rfl (by kernel_rfl) (by decide) (fun K hK => ?_)
        refine value_ (w1 := ?_) (v := ?_) (by rfl) rfl ?_ ?_
        rotate_left 2
        · go_simp
          constructor
          · rfl
          · rfl
        have HG5 := Lib.hid ((Below.heap_alloc W4 (.cells #[.string y.f0, .slice A5 y.f1.length c5, .bool false] 96 (0, 0)) gb (blk_lt HG4.out)).trans HG4.out)
        have HB5 := Lib.hid (HB4.out.alloc HB4.out.size (.cells #[.string y.f0, .slice A5 y.f1.length c5, .bool false] 96 (0, 0)))
        refine hK.out _ _ (⟨HG5.out, (HX.out _ HB5.out).1, (HX.out _ HB5.out).2⟩) (fun hHeld => ?_)
        clear hK K
        refine norm_ (a' := ?_) ?_ ?_
        rotate_left
        · show Act.put _ (some 42) _ = _
          simp only [Act.put, List.setIfInBounds_toArray, List.set_cons_zero, List.set_cons_succ, i64_w, i32_w]
          rfl
        refine one_ (i := 12) (N := some 43) #[true, true, true, true, true, true, true, true, true, true, true, true, true, false] rfl rfl (by kernel_rfl) (by decide) (fun K hK => ?_)
        refine Kd.S_append_step kChg (w0 := w0) w0.heap.size (by rfl) (.tmp 31) (.tmp 42) 75 96 (.agg #[(.string ⟨#[]⟩), (.slice none 0 0), (.bool false)]) 48 rfl Try.underlying75 info96 rfl (by decide) (by omega) vo s (⟨y.f0, y.f1, false⟩ : ChgS) [.string y.f0, .slice A5 y.f1.length c5, .bool false] (fun k => k ≠ gb) (fun k_ => W3.heap.size ≤ k_ ∧ True) rfl rfl ?aP ?aok ?aF ?aO ?aB ?aS ?aL ?_
        (case aP => exact (k96_mkM _ _ _ (⟨y.f0, y.f1, false⟩ : ChgS) HV.out))
        (case aok => exact (fun k hk => ⟨fun he => by have h1 := blk_lt HG3.out; have h2 := hk.1; omega, fun he => by have h1 := Kd.S_lt HS3.out k he.symm; have h2 := hk.1; omega⟩))
        (case aF => exact (fun k hk => fun he => by have h1 := blk_lt HG4.out; omega))
        (case aO => exact Kd.S_mono HS4.out (fun k hk => ⟨hk.1, fun h2 => by have h3 := hk.2.2.1; have h4 := h2.1; omega⟩))
        (case aB => exact HB4.out)
        (case aS => exact HB4.out.size)
        (case aL => have := HL.out; omega)
        intro v6 W6 ho hb hg hat
        have HS6 := Lib.hid ho
        have HB6 := Lib.hid hb
        have HG6 := Lib.hid ((hg.block gb (blk_lt HG4.out) (Kd.S_away HS4.out (fun k hk => hk.1))).trans HG4.out)
        clear ho hb hg hat
        refine hK.out _ _ (⟨HG6.out, (HX.out _ HB6.out).1, (HX.out _ HB6.out).2⟩) (fun hHeld => ?_)
        clear hK K
        refine norm_ (a' := ?_) ?_ ?_
        rotate_left
        · show Act.put _ (some 43) _ = _
          simp only [Act.put, List.setIfInBounds_toArray, List.set_cons_zero, List.set_cons_succ, i64_w, i32_w]
          rfl
        refine last_ (i := 13) (N := none) #[true, true, true, true, true, true, true, true, true, true, true, true, true, true] rfl rfl (by kernel_rfl) (by decide) (fun K hK => ?_)
        obtain ⟨A6, n6, c6, hv6⟩ : ∃ A n c, v6 = Value.slice A n c := by obtain ⟨A, c, e⟩ := Kd.S_slice HS6.out; exact ⟨A, _, c, e⟩
        subst hv6
        have hc0 := blk_cell0 HG6.out
        have hf0 := blk_frozen0 HG6.out
        refine skip_ (w1 := ?_) (by rfl) rfl ?_ ?_
        rotate_left 1
        · go_simp
          rfl
        refine hK.out _ _ ?_
        clear hK K hc0 hf0
        refine done_ (by kernel_rfl) ?_
        go_wp2_with (fail)
        refine bodyPost_end (results_none rfl _ _ _) rfl ⟨rfl, ?_⟩
        exact ⟨⟨_, heap_setCell_in HG6.out 0 _, Kd.S_far HS6.out (fun k hk => hk) _⟩, below_set HB6.out HOG.out, HOG.out, app_len _ HL.out⟩
def mayR (l : List RowS) : Bool := risingI l.length (keyR l) (lenR l)
theorem rising_len {n : Nat} {K : Nat → ByteArray} {V : Nat → Nat} (h : risingI n K V = true) (i : Nat) (hi : i < n) : V i ≤ 524288 := by
  unfold risingI at h
  rw [List.all_eq_true] at h
  have := h i (List.mem_range.2 hi)
  simp only [okAt, Bool.and_eq_true, decide_eq_true_eq] at this
  exact this.2
theorem mayR_len {l : List RowS} (h : mayR l = true) : ∀ x ∈ l, x.f1.length ≤ 524288 := by
  intro x hx
  obtain ⟨i, hi, rfl⟩ := List.mem_iff_getElem.1 hx
  have := rising_len h i hi
  unfold lenR at this
  rwa [List.getD_eq_getElem?_getD, List.getElem?_eq_getElem hi] at this
theorem mayC_len {l : List ChgS} (h : mayC l = true) : ∀ x ∈ l, x.f1.length ≤ 524288 := by
  intro x hx
  obtain ⟨i, hi, rfl⟩ := List.mem_iff_getElem.1 hx
  unfold mayC at h
  rw [Bool.and_eq_true] at h
  have := rising_len h.2 i hi
  unfold lenC at this
  rwa [List.getD_eq_getElem?_getD, List.getElem?_eq_getElem hi] at this
/-- batch.Apply. -/
def batch_ApplyL (l0 : List RowS) (l1 : List ChgS) : List RowS := bothL (fun x : RowS => x.f0) (fun x : ChgS => x.f0) stepA l0 l1 []
def batch_Apply.f (l0 : List RowS) (l1 : List ChgS) : Option (List RowS × Int) :=
  if (l0.length + l1.length) * 40 ≤ 140737488355328 then (if mayR l0 && mayC l1 then some (batch_ApplyL l0 l1, 0) else some ([], 2)) else none
set_option maxHeartbeats 4000000 in
set_option maxRecDepth 100000 in
theorem batch_Apply.calls (A0 : Option Addr) (c0 : Nat) (l0 : List RowS) (A1 : Option Addr) (c1 : Nat) (l1 : List ChgS) (r1 : List RowS) (r2 : Int) (w : World) (hr0 : Kd.C kRow w A0 l0.length l0) (hc0 : l0.length ≤ c0) (hr1 : Kd.C kChg w A1 l1.length l1) (hc1 : l1.length ≤ c1) (h : batch_Apply.f l0 l1 = some (r1, r2)) :
    Calls Try.prog 39 #[.slice A0 l0.length c0, .slice A1 l1.length c1] w fun e w' => ∃ v0_ : Value, e = .returned (.tuple #[v0_, .int .i64 r2]) ∧ Kd.S kRow 161 w' w.heap.size (fun _ => True) v0_ r1 ∧ Below w.heap.size w w' := by
  unfold batch_Apply.f at h
  by_cases hsz : (l0.length + l1.length) * 40 ≤ 140737488355328
  case neg => rw [if_neg hsz] at h; cases h
  rw [if_pos hsz] at h
  have K1 := Lib.hid (batch_May.calls A0 c0 l0 (mayR l0) w hr0 hc0 rfl)
  have K2 := Lib.hid (fun W (hW : Below w.heap.size w W) => batch_MayChange.calls A1 c1 l1 (mayC l1) W (Kd.C_below hr1 hW) hc1 rfl)
  have KB := Lib.hid (fun gb W (hi : InvA w gb (l0.length + l1.length) [] W) (h0 : mayR l0 = true) (h1 : mayC l1 = true) => bothRC_calls 102 #[.pointer (some ⟨gb, 0, none⟩)] (fun args w => by kernel_rfl) (fun x => x.f1.length ≤ 524288) (fun x => x.f1.length ≤ 524288) w (InvA w gb) stepA
    ⟨fun W r s ad x hi hx hp => apply1_row w gb r s ad x W hi hx hp, fun W r s bd y hi hy hp => apply1_chg w gb r s none none bd y W hi hy hp, fun W r s ad x bd y hi hx hpx hy hpy => apply1_chg w gb r s (some ad) (some x) bd y W hi hy hpy⟩ (fun r s W h => h.b) (fun r s W W' h hb => h.later hb) (fun r s W h => h.less) A0 A1 c0 c1 l0 l1 hr0 hr1 hc0 hc1 [] W hi (mayR_len h0) (mayC_len h1))
  obtain ⟨b0, hb0⟩ : ∃ b, mayR l0 = b := ⟨_, rfl⟩
  obtain ⟨b1, hb1⟩ : ∃ b, mayC l1 = b := ⟨_, rfl⟩
  rw [hb0] at h K1 KB
  rw [hb1] at h K2 KB
  have hm0 := Kd.C_max hr0
  have hm1 := Kd.C_max hr1
  have HSZ := Lib.hid hsz
  clear hb0 hb1 hr0 hr1 hc0 hc1 hsz
  have KB' : Hid (∀ gb W, InvA w gb (l0.length + l1.length) [] W → b0 = true → b1 = true → Calls Try.prog 99 #[.slice A0 l0.length c0, .slice A1 l1.length c1, .func (.func 100) #[] #[], .func (.func 101) #[] #[], .func (.func 102) #[] #[.pointer (some ⟨gb, 0, none⟩)]] W fun e w' => e = .returned (.tuple #[]) ∧ InvA w gb 0 (batch_ApplyL l0 l1) w') := Lib.hid (fun gb W hi h0 h1 => KB.out gb W hi h0 h1)
  clear KB
  obtain ⟨R, hR⟩ : ∃ R, batch_ApplyL l0 l1 = R := ⟨_, rfl⟩
  rw [hR] at h KB'
  clear hR
  obtain ⟨n, hn⟩ : ∃ n, l0.length = n := ⟨_, rfl⟩
  obtain ⟨m, hm⟩ : ∃ m, l1.length = m := ⟨_, rfl⟩
  rw [hn] at K1 KB' hm0 HSZ ⊢
  rw [hm] at K2 KB' hm1 HSZ ⊢
  clear hn hm
  cases b0 with
  | false =>
    simp only [Bool.false_and, Bool.false_eq_true, if_false, Option.some.injEq, Prod.mk.injEq] at h
    obtain ⟨rfl, rfl⟩ := h
    go_enter Try.func39, Try.ntmps39
    go_wp2_with (first
      | (go_at_call 46; refine K1.out.mono ?_; rintro e w1 ⟨rfl, hb1⟩; have HB1 := Lib.hid hb1; clear hb1))
    go_ret2
    exact ⟨_, rfl, Kd.S_nil _ _ _ _ _, HB1.out⟩
  | true =>
    cases b1 with
    | false =>
      simp only [Bool.and_false, Bool.false_eq_true, if_false, Option.some.injEq, Prod.mk.injEq] at h
      obtain ⟨rfl, rfl⟩ := h
      go_enter Try.func39, Try.ntmps39
      go_wp2_with (first
        | (go_at_call 33; refine (K2.out _ HB1.out).mono ?_; rintro e w2 ⟨rfl, hb2⟩; have HB2 := Lib.hid (below_step HB1.out hb2); clear hb2)
        | (go_at_call 46; refine K1.out.mono ?_; rintro e w1 ⟨rfl, hb1⟩; have HB1 := Lib.hid hb1; clear hb1))
      go_ret2
      exact ⟨_, rfl, Kd.S_nil _ _ _ _ _, HB2.out⟩
    | true =>
      simp only [Bool.and_self, if_true, Option.some.injEq, Prod.mk.injEq] at h
      obtain ⟨rfl, rfl⟩ := h
      have HIB := Lib.hid (fun W2 (hb : Below w.heap.size w W2) => KB'.out W2.heap.size (W2.alloc (.cells #[.slice none 0 0] 85 (0, 0))) ⟨⟨_, heap_alloc_new _ _, Kd.S_nil _ _ _ _ _⟩, hb.alloc hb.size _, hb.size, by have := HSZ.out; simpa using this⟩ rfl rfl)
      go_enter Try.func39, Try.ntmps39
      go_wp2_with (first
        | (go_at_call 33; refine (K2.out _ HB1.out).mono ?_; rintro e w2 ⟨rfl, hb2⟩; have HB2 := Lib.hid (below_step HB1.out hb2); have HI := Lib.hid (HIB.out _ HB2.out); clear hb2)
        | (go_at_call 46; refine K1.out.mono ?_; rintro e w1 ⟨rfl, hb1⟩; have HB1 := Lib.hid hb1; clear hb1)
        | (go_at_call 99; refine HI.out.mono ?_; rintro e w3 ⟨rfl, hi3⟩; obtain ⟨⟨vo, hg3, hs3⟩, hb3, _, _⟩ := hi3; have hc3 := blk_cell0 hg3; have HS3 := Lib.hid hs3; have HB3 := Lib.hid hb3; clear hs3 hb3 hg3))
      go_ret2
      exact ⟨_, rfl, Kd.S_mono HS3.out (fun _ _ => trivial), HB3.out⟩
/-- batch.Between. -/
def batch_BetweenL (l0 : List RowS) (l1 : List RowS) : List ChgS := bothL (fun x : RowS => x.f0) (fun x : RowS => x.f0) stepB l0 l1 []
def batch_Between.f (l0 : List RowS) (l1 : List RowS) : Option (List ChgS × Int) :=
  if (l0.length + l1.length) * 48 ≤ 140737488355328 then (if mayR l0 && mayR l1 then some (batch_BetweenL l0 l1, 0) else some ([], 2)) else none
set_option maxHeartbeats 4000000 in
set_option maxRecDepth 100000 in
theorem batch_Between.calls (A0 : Option Addr) (c0 : Nat) (l0 : List RowS) (A1 : Option Addr) (c1 : Nat) (l1 : List RowS) (r1 : List ChgS) (r2 : Int) (w : World) (hr0 : Kd.C kRow w A0 l0.length l0) (hc0 : l0.length ≤ c0) (hr1 : Kd.C kRow w A1 l1.length l1) (hc1 : l1.length ≤ c1) (h : batch_Between.f l0 l1 = some (r1, r2)) :
    Calls Try.prog 41 #[.slice A0 l0.length c0, .slice A1 l1.length c1] w fun e w' => ∃ v0_ : Value, e = .returned (.tuple #[v0_, .int .i64 r2]) ∧ Kd.S kChg 96 w' w.heap.size (fun _ => True) v0_ r1 ∧ Below w.heap.size w w' := by
  unfold batch_Between.f at h
  by_cases hsz : (l0.length + l1.length) * 48 ≤ 140737488355328
  case neg => rw [if_neg hsz] at h; cases h
  rw [if_pos hsz] at h
  have K1 := Lib.hid (batch_May.calls A0 c0 l0 (mayR l0) w hr0 hc0 rfl)
  have K2 := Lib.hid (fun W (hW : Below w.heap.size w W) => batch_May.calls A1 c1 l1 (mayR l1) W (Kd.C_below hr1 hW) hc1 rfl)
  have KB := Lib.hid (fun gb W (hi : InvB w gb (l0.length + l1.length) [] W) (h0 : mayR l0 = true) (h1 : mayR l1 = true) => bothRR_calls 109 #[.pointer (some ⟨gb, 0, none⟩)] (fun args w => by kernel_rfl) (fun x => x.f1.length ≤ 524288) (fun x => x.f1.length ≤ 524288) w (InvB w gb) stepB
    ⟨fun W r s ad x hi hx hp => between1_one w gb r s ad x W hi hx, fun W r s bd y hi hy hp => between1_two w gb r s bd y W hi hy hp, fun W r s ad x bd y hi hx hpx hy hpy => between1_both w gb r s ad x bd y W hi hx hy hpy⟩ (fun r s W h => h.b) (fun r s W W' h hb => h.later hb) (fun r s W h => h.less) A0 A1 c0 c1 l0 l1 hr0 hr1 hc0 hc1 [] W hi (mayR_len h0) (mayR_len h1))
  obtain ⟨b0, hb0⟩ : ∃ b, mayR l0 = b := ⟨_, rfl⟩
  obtain ⟨b1, hb1⟩ : ∃ b, mayR l1 = b := ⟨_, rfl⟩
  rw [hb0] at h K1 KB
  rw [hb1] at h K2 KB
  have hm0 := Kd.C_max hr0
  have hm1 := Kd.C_max hr1
  have HSZ := Lib.hid hsz
  clear hb0 hb1 hr0 hr1 hc0 hc1 hsz
  have KB' : Hid (∀ gb W, InvB w gb (l0.length + l1.length) [] W → b0 = true → b1 = true → Calls Try.prog 108 #[.slice A0 l0.length c0, .slice A1 l1.length c1, .func (.func 100) #[] #[], .func (.func 100) #[] #[], .func (.func 109) #[] #[.pointer (some ⟨gb, 0, none⟩)]] W fun e w' => e = .returned (.tuple #[]) ∧ InvB w gb 0 (batch_BetweenL l0 l1) w') := Lib.hid (fun gb W hi h0 h1 => KB.out gb W hi h0 h1)
  clear KB
  obtain ⟨R, hR⟩ : ∃ R, batch_BetweenL l0 l1 = R := ⟨_, rfl⟩
  rw [hR] at h KB'
  clear hR
  obtain ⟨n, hn⟩ : ∃ n, l0.length = n := ⟨_, rfl⟩
  obtain ⟨m, hm⟩ : ∃ m, l1.length = m := ⟨_, rfl⟩
  rw [hn] at K1 KB' hm0 HSZ ⊢
  rw [hm] at K2 KB' hm1 HSZ ⊢
  clear hn hm
  cases b0 with
  | false =>
    simp only [Bool.false_and, Bool.false_eq_true, if_false, Option.some.injEq, Prod.mk.injEq] at h
    obtain ⟨rfl, rfl⟩ := h
    go_enter Try.func41, Try.ntmps41
    go_wp2_with (first
      | (go_at_call 46; refine K1.out.mono ?_; rintro e w1 ⟨rfl, hb1⟩; have HB1 := Lib.hid hb1; clear hb1))
    go_ret2
    exact ⟨_, rfl, Kd.S_nil _ _ _ _ _, HB1.out⟩
  | true =>
    cases b1 with
    | false =>
      simp only [Bool.and_false, Bool.false_eq_true, if_false, Option.some.injEq, Prod.mk.injEq] at h
      obtain ⟨rfl, rfl⟩ := h
      go_enter Try.func41, Try.ntmps41
      go_wp2_with (first
        | (go_at_call 46; refine (K2.out _ HB1.out).mono ?_; rintro e w2 ⟨rfl, hb2⟩; have HB2 := Lib.hid (below_step HB1.out hb2); clear hb2)
        | (go_at_call 46; refine K1.out.mono ?_; rintro e w1 ⟨rfl, hb1⟩; have HB1 := Lib.hid hb1; clear hb1))
      go_ret2
      exact ⟨_, rfl, Kd.S_nil _ _ _ _ _, HB2.out⟩
    | true =>
      simp only [Bool.and_self, if_true, Option.some.injEq, Prod.mk.injEq] at h
      obtain ⟨rfl, rfl⟩ := h
      have HIB := Lib.hid (fun W2 (hb : Below w.heap.size w W2) => KB'.out W2.heap.size (W2.alloc (.cells #[.slice none 0 0] 75 (0, 0))) ⟨⟨_, heap_alloc_new _ _, Kd.S_nil _ _ _ _ _⟩, hb.alloc hb.size _, hb.size, by have := HSZ.out; simpa using this⟩ rfl rfl)
      go_enter Try.func41, Try.ntmps41
      go_wp2_with (first
        | (go_at_call 46; refine (K2.out _ HB1.out).mono ?_; rintro e w2 ⟨rfl, hb2⟩; have HB2 := Lib.hid (below_step HB1.out hb2); have HI := Lib.hid (HIB.out _ HB2.out); clear hb2)
        | (go_at_call 46; refine K1.out.mono ?_; rintro e w1 ⟨rfl, hb1⟩; have HB1 := Lib.hid hb1; clear hb1)
        | (go_at_call 108; refine HI.out.mono ?_; rintro e w3 ⟨rfl, hi3⟩; obtain ⟨⟨vo, hg3, hs3⟩, hb3, _, _⟩ := hi3; have hc3 := blk_cell0 hg3; have HS3 := Lib.hid hs3; have HB3 := Lib.hid hb3; clear hs3 hb3 hg3))
      go_ret2
      exact ⟨_, rfl, Kd.S_mono HS3.out (fun _ _ => trivial), HB3.out⟩
end Go.Proofs.Ytaoflcmjmhfblaa.D
