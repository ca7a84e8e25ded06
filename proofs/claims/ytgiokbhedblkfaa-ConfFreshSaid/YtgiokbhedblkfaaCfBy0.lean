/- conf.Bytes: what it gives; lay behind a call that makes fields. -/
import Derived.Test.YtgiokbhedblkfaaCfCheck
namespace Go.Proofs.Ytgiokbhedblkfaa.C
open Go.RowKit Go.Proofs.YtgiokbhedblkfaaW.PrintWords Go.Proofs.YtgiokbhedblkfaaW.PrintLast Go.Proofs.YtgiokbhedblkfaaW.PrintMore Go.Proofs.Ytgiokbhedblkfaa.H
set_option linter.unusedVariables false
set_option linter.unusedSimpArgs false
section
variable {P : Program} {ops : Array Oper} {o : Oper} {a : Act} {Q : Exit → Act → World → Prop} {Kc : Act → World → Prop}
/-- append(b, s...), s a text. -/
theorem R_append_str_step {w0 W : World} (base : Nat) (hw : Region.wanted o (yielded ops a.tmps) = true) (s x : Operand) (t u e : TypeId)
    (ho : o.op = .call { callee := .builtin .append, args := #[s, x], argTypes := #[t, u] })
    (ht : P.underlying t = some (.slice e)) (hu : P.underlying u = some .string) (hinfo : (P.info? e).map (fun i => (i.zero, i.size, i.bytes)) = some (some (.int .u8 0), 1, 1))
    (v : Value) (xs : List Int) (y : ByteArray) (hs : a.eval s = v) (hx : a.eval x = .string y) (HO : Kd.R (Kd.int .u8) e W base (fun _ => True) v xs) (HB : Below base w0 W) (hbase : base ≤ W.heap.size) (hl : xs.length + y.size ≤ 140737488355328)
    (h : ∀ v1 w1, Kd.R (Kd.int .u8) e w1 base (fun _ => True) v1 (xs ++ bytesOf y) → Below base w0 w1 → W.grownBy w1 v.ownBlock → Kc (a.put o.dst v1) w1) :
    if Region.wanted o (yielded ops a.tmps) = true then Oper.wp P o a W Kc Q else Kc (a.put o.dst undef) W := by
  obtain ⟨i0, hi, hzz⟩ := Option.map_eq_some_iff.1 hinfo
  simp only [Prod.mk.injEq] at hzz
  obtain ⟨hz0, hz1, hz2⟩ := hzz
  have HO' : W.ownsRow base e 1 v xs.length (nums .u8 xs) := Kd.own_of_R HO
  obtain ⟨v1, w1, hrun, hown, hg, _⟩ := Lib.run_append_own_string (P := P) W base t u o.type e i0 ht hu hi hz0 hz1 hz2 v xs.length (nums .u8 xs) HO' y (by simp only [maxLen]; omega) hl hbase
  have hl2 : (xs ++ bytesOf y).length = xs.length + y.size := by rw [List.length_append, bytesOf_length]
  have hc : nums .u8 (xs ++ bytesOf y) = nums .u8 xs ++ Lib.strCells y := by
    rw [nums_append]
    congr 1
    simp [nums, bytesOf, Lib.strCells]
  rw [← hl2, ← hc] at hown
  rw [if_pos hw]
  unfold Oper.wp execOp
  simp only [ho, resolve, invoke, builtin, Sem.run_bind, Sem.run_pure, Result.andThen_ok, List.map_toArray, List.map_cons, List.map_nil, hs, hx, hrun]
  exact h v1 w1 (Kd.R_of_own (h1 := fun _ => rfl) (enc := Value.int .u8) (ok := fun _ => True) hown (fun _ _ => trivial)) (HB.grown hg hbase (own_base HO')) hg
end
/-- A literal of one byte. -/
theorem R_one (W : World) (base : Nat) (hb : base ≤ W.heap.size) (q : Int) : Kd.R (Kd.int .u8) 5 (W.alloc (.cells #[.int .u8 q] 5 (0, 0))) base (fun _ => True) (.slice (some ⟨W.heap.size, 0, none⟩) 1 1) [q] := by
  refine Kd.R_of_own (h1 := fun _ => rfl) (enc := Value.int .u8) (ok := fun _ => True) (xs := [q]) ?_ (fun _ _ => trivial)
  exact ⟨rfl, .inr ⟨W.heap.size, 1, #[.int .u8 q], rfl, hb, heap_alloc_new _ _, Nat.le_refl _, by unfold maxLen; omega, rfl, rfl⟩⟩
/-- lay, behind the call that made the fields. -/
theorem lay_mk (w3 W0 W : World) (v : Value) (bs : List Int) (A : Option Addr) (c : Nat) (l cs : List Fd)
    (hv : Kd.R (Kd.int .u8) 5 W0 w3.heap.size (fun _ => True) v bs) (hB : Below w3.heap.size w3 W0) (hC : Kd.C kFd W A l.length l) (hb : Below W0.heap.size W0 W) (hx : ∀ f ∈ l, f.Box W ∧ W0.heap.size ≤ f.g) (hm : l.map Fd.noG = cs)
    (hA : ∀ ad, A = some ad → W0.heap.size ≤ ad.block) (hne : 0 < cs.length) (hi : ∀ f ∈ cs, f.In W) (hp : ∀ f ∈ cs, f.p.block < w3.heap.size) (hsz : bs.length + 8 * cs.length ≤ 140737488355328) :
    Calls Try.prog 47 #[v, .slice A l.length c] W fun e w' => ∃ v', e = .returned v' ∧ Kd.R (Kd.int .u8) 5 w' w3.heap.size (fun _ => True) v' (bs ++ cs.flatMap Fd.bytes) ∧ Below w3.heap.size w3 w' ∧ ∀ k, k < W.heap.size → v.ownBlock ≠ some k → w'.heap[k]? = W.heap[k]? := by
  have hlen : cs.length = l.length := by rw [← hm, List.length_map]
  have hv' := Kd.R_below hv hb
  have h := lay_calls w3 W (fun k => v.ownBlock = some k ∨ W.heap.size ≤ k) v bs A c l ⟨fun k hk => .inl hk, hv'.2⟩ (below_step hB hb) hC (fds_in hx hm hi) (fun k hk => ?_) (fun k hk => .inr hk) (by rw [← hlen]; exact hsz)
  · rw [← bytes_noG, hm] at h
    exact h.mono fun e w' ⟨v', h1, h2, h3, h4⟩ => ⟨v', h1, Kd.R_mono h2 (fun _ _ => trivial), h3, fun k hk hne' => h4.2 k hk (fun h => h.elim (fun h => hne' h) (fun h => by omega))⟩
  · obtain ⟨inner, ho⟩ := Kd.R_own hv
    refine ⟨fun ad had e => ?_, fun f hf => ⟨fun e => ?_, fun e => ?_⟩⟩
    · subst had
      have h1 := hA ad rfl
      have h2 := kFd_lt hC (by omega)
      rcases hk with hk | hk
      · have := own_lt ho k hk; omega
      · omega
    · obtain ⟨h1, h2⟩ := hx f hf
      have h3 := World.block_lt_of_cell? W _ h1
      rcases hk with hk | hk
      · have := own_lt ho k hk; omega
      · exact absurd h3 (by show ¬ f.g < _; omega)
    · have h1 := hp f.noG (by rw [← hm]; exact List.mem_map_of_mem hf)
      have h1' : f.p.block < w3.heap.size := h1
      rcases hk with hk | hk
      · have := own_base ho k hk; omega
      · have := hB.size; have := hb.size; omega
/-- What is laid of a pool, a band, a plan; of a configuration. -/
def poolB (y : S37) : List Int := ([IntKind.u8.wrap (y.f0.size : Int)] ++ bytesOf y.f0) ++ (poolF a0 y).flatMap Fd.bytes
def bandB (y : S39) : List Int := (bandF a0 y).flatMap Fd.bytes
def planB (y : S41) : List Int := (planF a0 y).flatMap Fd.bytes
def ownB (x : S27) : List Int := (ownC 0 (cfX x)).flatMap Fd.bytes
def bytesC (x : S27) : List Int :=
  (((([IntKind.u8.wrap (x.f0.length : Int)] ++ x.f0.flatMap poolB) ++ ownB x) ++ [IntKind.u8.wrap (x.f18.length : Int)]) ++ x.f18.flatMap bandB) ++ [IntKind.u8.wrap (x.f19.length : Int)] ++ x.f19.flatMap planB
theorem flat_len (l : List Fd) : (l.flatMap Fd.bytes).length ≤ 8 * l.length := by
  induction l with
  | nil => simp
  | cons x l ih => rw [List.flatMap_cons, List.length_append, List.length_cons]; have : x.bytes.length ≤ 8 := putL_len _ _; omega
theorem flat_le {α : Type} (f : α → List Int) (m : Nat) (l : List α) (h : ∀ y ∈ l, (f y).length ≤ m) : (l.flatMap f).length ≤ m * l.length := by
  induction l with
  | nil => simp
  | cons x l ih =>
    rw [List.flatMap_cons, List.length_append, List.length_cons, Nat.mul_add, Nat.mul_one]
    have h1 := h x (List.mem_cons_self ..)
    have h2 := ih (fun y hy => h y (List.mem_cons_of_mem _ hy))
    omega
theorem bandB_len (y : S39) : (bandB y).length ≤ 16 := flat_len _
theorem planB_len (y : S41) : (planB y).length ≤ 24 := flat_len _
theorem ownB_len (x : S27) : (ownB x).length ≤ 136 := flat_len _
theorem poolB_len (y : S37) (h : y.f0.size ≤ 24) : (poolB y).length ≤ 49 := by
  unfold poolB
  rw [List.length_append, List.length_append, bytesOf_length]
  have : ((poolF a0 y).flatMap Fd.bytes).length ≤ 24 := flat_len _
  simp only [List.length_singleton]
  omega
theorem poolOk_size {y : S37} (h : poolOk y = true) : y.f0.size ≤ 24 := by
  unfold poolOk at h
  rw [Bool.and_eq_true] at h
  have h1 := h.1
  unfold isL at h1
  simp only [Bool.and_eq_true, decide_eq_true_eq] at h1
  have := h1.2.1
  rwa [strN_len] at this
theorem check_zero {x : S27} (h : checkC x = 0) : x.f0.length ≤ 64 ∧ x.f18.length ≤ 8 ∧ x.f19.length ≤ 16 ∧ x.f0.all poolOk = true := by
  unfold checkC at h
  by_cases h1 : 64 < x.f0.length ∨ 8 < x.f18.length ∨ 16 < x.f19.length
  · rw [if_pos h1] at h; cases h
  · rw [if_neg h1] at h
    by_cases h2 : ¬ (x.f0.map (fun y => y.f0)).Nodup
    · rw [if_pos h2] at h; cases h
    · rw [if_neg h2] at h
      split at h
      · rename_i h3
        simp only [Bool.and_eq_true] at h3
        exact ⟨by omega, by omega, by omega, h3.1.1.2⟩
      · cases h
theorem own_bytes (g : Nat) (x : S27) : (ownC g (cfX x)).flatMap Fd.bytes = ownB x := rfl
theorem pool_bytes (p : Addr) (y : S37) : (poolF p y).flatMap Fd.bytes = (poolF a0 y).flatMap Fd.bytes := rfl
theorem band_bytes (p : Addr) (y : S39) : (bandF p y).flatMap Fd.bytes = bandB y := rfl
theorem plan_bytes (p : Addr) (y : S41) : (planF p y).flatMap Fd.bytes = planB y := rfl
end Go.Proofs.Ytgiokbhedblkfaa.C
