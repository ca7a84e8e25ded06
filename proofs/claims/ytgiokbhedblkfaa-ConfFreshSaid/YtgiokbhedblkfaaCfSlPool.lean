/- slices.IndexFunc, ContainsFunc, Clone, DeleteFunc at api.Pool. -/
import Derived.Test.YtgiokbhedblkfaaC0
import Derived.Test.YtgiokbhedblkfaaGBase
namespace Go.Proofs.Ytgiokbhedblkfaa.C
open Go.RowKit Go.Proofs.YtgiokbhedblkfaaW.PrintWords Go.Proofs.YtgiokbhedblkfaaW.PrintLast Go.Proofs.YtgiokbhedblkfaaW.PrintMore Go.Proofs.Ytgiokbhedblkfaa.H Go.Shelf
set_option linter.unusedVariables false
set_option linter.unusedSimpArgs false
def vPool (x : S37) : Value := .agg #[.string x.f0, .bool x.f1, .int .i64 x.f2, .int .i64 x.f3]
theorem infoLPool : (Try.prog.info? 37).map (fun i => (i.zero, i.size, i.bytes)) = some (some (.agg #[(.string ⟨#[]⟩), (.bool false), (.int .i64 0), (.int .i64 0)]), 4, 40) := by kernel_rfl
theorem kmPool {w W : World} {base : Nat} {ok : Nat → Prop} {x : S37} {cs : List Value} (h : k37.K w x cs) : k37.M W base ok x cs := by
  have e := k37_open h
  subst e
  exact k37_mkM _ _ _ x
set_option maxHeartbeats 2000000 in
set_option maxRecDepth 100000 in
theorem clonePool (A : Option Addr) (c : Nat) (l : List S37) (w : World) (h : Kd.C k37 w A l.length l) (hl : l.length * 40 ≤ 140737488355328) :
    Calls Try.prog 38 #[.slice A l.length c] w fun e w' => ∃ v0_ : Value, e = .returned v0_ ∧ Kd.R k37 37 w' w.heap.size (fun _ => True) v0_ l ∧ Below w.heap.size w w' := by
  have H := Lib.hid h
  have HL := Lib.hid hl
  have hnil := fun (W : World) (a : Option Addr) (n c : Nat) => Lib.run_eql_slice_nil (P := Try.prog) W 22 37 a n c 0 0 Try.underlying22
  rcases A with _ | ad
  · have h0 : l = [] := by
      rcases Nat.eq_zero_or_pos l.length with h | h
      · exact List.eq_nil_of_length_eq_zero h
      · obtain ⟨_, e, _⟩ := H.out.2.2 h; cases e
    subst h0
    clear h hl
    go_enter Try.func38, Try.ntmps38
    go_wp2_with (fail)
    all_goals first | (exfalso; omega) | (go_ret; exact ⟨_, rfl, Kd.R_nil _ _ _ _ _, Below.refl _ _⟩)
  · obtain ⟨n, hn⟩ : ∃ n, l.length = n := ⟨_, rfl⟩
    rw [hn] at H HL ⊢
    have hbel := (Below.refl w.heap.size w).alloc (Nat.le_refl _) (.cells #[] 37 (0, 0))
    have hro : Kd.R k37 37 (w.alloc (.cells #[] 37 (0, 0))) w.heap.size (fun _ => True) (.slice (some ⟨w.heap.size, 0, none⟩) 0 0) ([] : List S37) :=
      ⟨fun _ _ => trivial, [], ⟨rfl, .inr ⟨w.heap.size, 0, #[], rfl, Nat.le_refl _, heap_alloc_new _ _, Nat.le_refl _, by unfold maxLen; omega, rfl, rfl⟩⟩, Reps.none _ _⟩
    have hrd := Kd.C_below H.out hbel
    have HBE := Lib.hid hbel
    have HRO := Lib.hid hro
    have HRD := Lib.hid hrd
    have HN := Lib.hid hn
    clear h hn hl hbel hro hrd
    go_enter Try.func38, Try.ntmps38
    go_wp2_with (first
      | (at_builtin; refine Kd.R_append_rows k37 (w0 := w) (Rr := fun x cs => k37.K (w.alloc (.cells #[] 37 (0, 0))) x cs) w.heap.size rfl _ _ 22 37 (.agg #[(.string ⟨#[]⟩), (.bool false), (.int .i64 0), (.int .i64 0)]) 40 rfl Try.underlying22 infoLPool rfl (by decide) (by decide) _ ([] : List S37) l (some ad) n c (fun _ => True) (fun _ => False) rfl rfl HRO.out HRD.out (fun x cs h => kmPool h) (fun _ h => h.elim) (fun _ _ => trivial) HBE.out (by simp) (by simpa using HL.out) ?_; intro v1 w1 ho hb hg hat; have HO := Lib.hid ho; have HB := Lib.hid hb; clear ho hb hg hat))
    all_goals first | (exfalso; omega) | (go_ret; exact ⟨_, rfl, HO.out, HB.out⟩)
end Go.Proofs.Ytgiokbhedblkfaa.C
