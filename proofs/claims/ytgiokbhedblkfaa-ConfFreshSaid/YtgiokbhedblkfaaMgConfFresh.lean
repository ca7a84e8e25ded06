/- cohortlaw11.one, conf.Classes, conf.Weight (of one pool), cohortlaw11.great. -/
import Derived.Test.YtgiokbhedblkfaaCfBytes
import Derived.Test.YtgiokbhedblkfaaC1
import Derived.Test.YtgiokbhedblkfaaC0
import Derived.Test.YtgiokbhedblkfaaRow
import Derived.Test.YtgiokbhedblkfaaRows
namespace Go.Proofs.Ytgiokbhedblkfaa.C
open Go.RowKit Go.Proofs.YtgiokbhedblkfaaW.PrintWords Go.Proofs.YtgiokbhedblkfaaW.PrintLast Go.Proofs.YtgiokbhedblkfaaW.PrintMore Go.Proofs.Ytgiokbhedblkfaa.H
set_option linter.unusedVariables false
set_option linter.unusedSimpArgs false
def onePool : S37 := ⟨⟨#[97]⟩, false, 1, 0⟩
def oneX : S27 := ⟨[onePool], 1, 1, false, 0, 10, 0, 0, 0, 0, 0, 0, 0, 0, 5, 0, false, 0, [], []⟩
def zeroX : S27 := ⟨[], 0, 0, false, 0, 0, 0, 0, 0, 0, 0, 0, 0, 0, 0, 0, false, 0, [], []⟩
def twoX : S27 := { oneX with f0 := [onePool, onePool] }
def lessX : S27 := { oneX with f5 := -1 }
theorem check_one : checkC oneX = 0 := by kernel_rfl
theorem check_zeroX : checkC zeroX = 2 := by kernel_rfl
theorem check_two : checkC twoX = 8 := by kernel_rfl
theorem check_less : checkC lessX = 2 := by kernel_rfl
theorem bytes_one_len : (bytesC oneX).length = 64 := by kernel_rfl
theorem bytes_one_head : (bytesC oneX).take 3 = [1, 1, 97] := by kernel_rfl
end Go.Proofs.Ytgiokbhedblkfaa.C
/- cohortlaw11.one, conf.Classes, conf.Weight (of one pool), cohortlaw11.great. -/
namespace Go.Proofs.Ytgiokbhedblkfaa.C
open Go.RowKit Go.Proofs.YtgiokbhedblkfaaW.PrintWords Go.Proofs.YtgiokbhedblkfaaW.PrintLast Go.Proofs.YtgiokbhedblkfaaW.PrintMore Go.Proofs.Ytgiokbhedblkfaa.H
set_option linter.unusedVariables false
set_option linter.unusedSimpArgs false
def zC : Array Value := #[.slice none 0 0, .int .u8 0, .int .i64 0, .bool false, .int .i64 0, .int .i64 0, .int .i64 0, .int .i64 0, .int .i64 0, .int .i64 0, .int .u64 0, .int .u64 0, .int .u64 0, .int .u64 0, .int .u64 0, .int .u64 0, .bool false, .int .i64 0, .slice none 0 0, .slice none 0 0]
theorem R_onePool (W : World) (base : Nat) (hb : base ≤ W.heap.size) : Kd.R k37 37 (W.alloc (.cells #[.string ⟨#[97]⟩, .bool false, .int .i64 1, .int .i64 0] 37 (0, 0))) base (fun _ => True) (.slice (some ⟨W.heap.size, 0, none⟩) 1 1) [onePool] := by
  refine ⟨fun _ _ => trivial, [.string ⟨#[97]⟩, .bool false, .int .i64 1, .int .i64 0], ⟨rfl, .inr ⟨W.heap.size, 1, #[.string ⟨#[97]⟩, .bool false, .int .i64 1, .int .i64 0], rfl, hb, heap_alloc_new _ _, Nat.le_refl _, by unfold maxLen; omega, rfl, rfl⟩⟩, ?_⟩
  exact Reps.c4 (show Kd.M k37 _ _ _ onePool [.string ⟨#[97]⟩, .bool false, .int .i64 1, .int .i64 0] from k37_mkM _ _ _ onePool) (Reps.none _ _)
set_option maxHeartbeats 2000000 in
theorem one_calls (w : World) : Calls Try.prog 35 #[] w fun e w' => ∃ v0, e = .returned (cfgV oneX v0 (.slice none 0 0) (.slice none 0 0)) ∧ Kd.R k37 37 w' w.heap.size (fun _ => True) v0 [onePool] ∧ Below w.heap.size w w' := by
  have hg := heap_alloc_new w (.cells zC 27 (0, 0))
  have hg2 := (Below.heap_alloc (w.alloc (.cells zC 27 (0, 0))) (.cells #[.string ⟨#[97]⟩, .bool false, .int .i64 1, .int .i64 0] 37 (0, 0)) w.heap.size (blk_lt hg)).trans hg
  have HG := Lib.hid hg2
  have hb1 := (Below.refl w.heap.size w).alloc (Nat.le_refl _) (.cells zC 27 (0, 0))
  have HB := Lib.hid (hb1.alloc hb1.size (.cells #[.string ⟨#[97]⟩, .bool false, .int .i64 1, .int .i64 0] 37 (0, 0)))
  have HR := Lib.hid (R_onePool (w.alloc (.cells zC 27 (0, 0))) w.heap.size hb1.size)
  unfold zC at HG HB HR
  clear hg hg2 hb1
  go_enter Try.func35, Try.ntmps35
  go_wp2_with (first
    | (refine Go.Great.wpList_buildSliceTo rfl 22 37 1 _ rfl _ rfl _ rfl Try.underlying22 #[.string ⟨#[97]⟩, .bool false, .int .i64 1, .int .i64 0] (by kernel_rfl) ?_)
    | ((with_reducible refine gate_storeT 27 rfl ?_); refine wpList_store_row rfl 27 _ _ rfl _ _ rfl rfl 27 _ HG.out (by kernel_rfl) rfl (by simp [Value.oneCell']) ?_))
  exact bodyPost_ret (res_cell rfl rfl (run_loadVar_box 27 _ 27 _ _ _ (setRow_heap _ _ _ _ _ _ HG.out) Try.underlying27 rfl (by kernel_rfl))) rfl ⟨.slice (some ⟨w.heap.size + 1, 0, none⟩) 1 1, rfl, R_setRow (by have h := HR.out; rwa [World.size_alloc] at h) HG.out (by decide), below_setRow HB.out (Nat.le_refl _) _⟩
set_option maxHeartbeats 2000000 in
theorem classes_one (x : S27) (A : Option Addr) (c : Nat) (v18 v19 : Value) (w : World) (h : Kd.C k37 w A 1 [onePool]) :
    Calls Try.prog 36 #[cfgV x (.slice A 1 c) v18 v19] w fun e w' => e = .returned (.tuple #[.int .i64 1, .int .i64 0]) ∧ Below w.heap.size w w' := by
  have hv : cfgV x (.slice A 1 c) v18 v19 = .agg (cfgC x (.slice A 1 c) v18 v19) := rfl
  rw [hv]
  have hg1 := heap_alloc_new w (.cells (cfgC x (.slice A 1 c) v18 v19) 27 (0, 0))
  have hc0 := blk_cellk (v := .slice A 1 c) hg1 0 rfl
  have hB1 := (Below.refl w.heap.size w).alloc (Nat.le_refl _) (.cells (cfgC x (.slice A 1 c) v18 v19) 27 (0, 0))
  have HB1 := Lib.hid hB1
  obtain ⟨ad, ea, hcc⟩ := kPool_C h 0 (by omega)
  subst ea
  have HCC := Lib.hid (fun W (hW : Below w.heap.size w W) => show ∀ j v, ([.string ⟨#[97]⟩, .bool false, .int .i64 1, .int .i64 0] : List Value)[j]? = some v → W.cell? (ad.add j) = some v from fun j v hv => by
    have h2 := cap_keep (hcc j v hv) hW
    rwa [Nat.zero_mul, addr_add0] at h2)
  clear hv h hcc
  go_enter Try.func36, Try.ntmps36
  go_upto_region 1 with (fail)
  have HCW := Lib.hid (HCC.out _ hB1)
  clear hg1 hB1
  generalize (w.alloc (.cells (cfgC x (.slice (some ad) 1 c) v18 v19) 27 (0, 0))) = wx at HB1 hc0 HCW ⊢
  go_wp2_with (fail)
  refine wp_loop_rounds 2 ?_
  rw [rounds_succ]
  have HN := Lib.hid (heap_alloc_new wx (.cells #[.string ⟨#[97]⟩, .bool false, .int .i64 1, .int .i64 0] 37 (0, 0)))
  go_wp2_with (first
    | ((with_reducible refine gate_load 37 rfl ?_); refine wpList_load_any rfl 37 _ rfl _ rfl _ _ HCW.out Try.underlying37 rfl (by kernel_rfl) ?_)
    | ((with_reducible refine gate_storeT 37 rfl ?_); refine wpList_store_row rfl 37 _ _ rfl _ _ rfl rfl 37 _ (heap_alloc_new _ _) (by kernel_rfl) rfl (by simp [Value.oneCell']) ?_; rw [setRow_alloc]))
  rw [rounds_succ]
  go_wp2_with (fail)
  go_ret2
  exact ⟨rfl, HB1.out.alloc HB1.out.size _⟩
set_option maxHeartbeats 2000000 in
theorem max_one (A : Option Addr) (c : Nat) (w : World) (h : Kd.C k37 w A 1 [onePool]) :
    Calls Try.prog 86 #[.slice A 1 c, .func (.func 87) #[] #[]] w fun e w' => e = .returned (.agg #[.string ⟨#[97]⟩, .bool false, .int .i64 1, .int .i64 0]) ∧ Below w.heap.size w w' := by
  obtain ⟨ad, ea, hcc⟩ := kPool_C h 0 (by omega)
  subst ea
  have HCC := Lib.hid (fun W (hW : Below w.heap.size w W) => show ∀ j v, ([.string ⟨#[97]⟩, .bool false, .int .i64 1, .int .i64 0] : List Value)[j]? = some v → W.cell? (ad.add j) = some v from fun j v hv => by
    have h2 := cap_keep (hcc j v hv) hW
    rwa [Nat.zero_mul, addr_add0] at h2)
  have hb1 := (Below.refl w.heap.size w).alloc (Nat.le_refl _) (.cells #[.string ⟨#[]⟩, .bool false, .int .i64 0, .int .i64 0] 37 (0, 0))
  have HB1 := Lib.hid hb1
  have HG1 := Lib.hid (heap_alloc_new w (.cells #[.string ⟨#[]⟩, .bool false, .int .i64 0, .int .i64 0] 37 (0, 0)))
  clear h hcc
  go_enter Try.func86, Try.ntmps86
  go_upto_region 1 with (fail)
  have HCW := Lib.hid (HCC.out _ hb1)
  clear hb1
  have HGS := Lib.hid (show w.heap.size < (w.alloc (.cells #[.string ⟨#[]⟩, .bool false, .int .i64 0, .int .i64 0] 37 (0, 0))).heap.size by simp)
  generalize (w.alloc (.cells #[.string ⟨#[]⟩, .bool false, .int .i64 0, .int .i64 0] 37 (0, 0))) = wx at HB1 HG1 HCW HGS ⊢
  have HN := Lib.hid (heap_alloc_new wx (.cells #[.string ⟨#[97]⟩, .bool false, .int .i64 1, .int .i64 0] 37 (0, 0)))
  have HG2 := Lib.hid ((Below.heap_alloc wx (.cells #[.string ⟨#[97]⟩, .bool false, .int .i64 1, .int .i64 0] 37 (0, 0)) w.heap.size HGS.out).trans HG1.out)
  go_wp2_with (first
    | ((with_reducible refine gate_load 37 rfl ?_); refine wpList_load_any rfl 37 _ rfl _ rfl _ _ HCW.out Try.underlying37 rfl (by kernel_rfl) ?_)
    | ((with_reducible refine gate_storeT 37 rfl ?_); refine wpList_store_row rfl 37 _ _ rfl _ _ rfl rfl 37 _ (heap_alloc_new _ _) (by kernel_rfl) rfl (by simp [Value.oneCell']) ?_; rw [setRow_alloc]))
  refine wp_loop_rounds 1 ?_
  rw [rounds_succ]
  go_wp2_with (first
    | ((with_reducible refine gate_load 37 rfl ?_); refine wpList_load_row rfl 37 _ rfl _ rfl 37 _ _ _ HN.out Try.underlying37 rfl (by kernel_rfl) ?_)
    | ((with_reducible refine gate_storeT 37 rfl ?_); refine wpList_store_row rfl 37 _ _ rfl _ _ rfl rfl 37 _ HG2.out (by kernel_rfl) rfl (by simp [Value.oneCell']) ?_))
  exact bodyPost_ret (res_cell rfl rfl (run_loadVar_box 37 _ 37 _ _ _ (setRow_heap _ _ _ _ _ _ HG2.out) Try.underlying37 rfl (by kernel_rfl))) rfl ⟨rfl, below_setRow (HB1.out.alloc HB1.out.size _) (Nat.le_refl _) _⟩
set_option maxHeartbeats 2000000 in
set_option maxRecDepth 100000 in
theorem weight_one (x : S27) (A : Option Addr) (c : Nat) (v18 v19 : Value) (w : World) (h : Kd.C k37 w A 1 [onePool]) :
    Calls Try.prog 37 #[cfgV x (.slice A 1 c) v18 v19] w fun e w' => e = .returned (.int .i64 1) ∧ Below w.heap.size w w' := by
  have hv : cfgV x (.slice A 1 c) v18 v19 = .agg (cfgC x (.slice A 1 c) v18 v19) := rfl
  rw [hv]
  have hg1 := heap_alloc_new w (.cells (cfgC x (.slice A 1 c) v18 v19) 27 (0, 0))
  have hc0 := blk_cellk (v := .slice A 1 c) hg1 0 rfl
  have hB1 := (Below.refl w.heap.size w).alloc (Nat.le_refl _) (.cells (cfgC x (.slice A 1 c) v18 v19) 27 (0, 0))
  have HB1 := Lib.hid hB1
  have KM := Lib.hid (max_one A c _ (Kd.C_below h hB1))
  clear hv h
  go_enter Try.func37, Try.ntmps37
  go_upto_region 1 with (fail)
  clear hg1 hB1
  generalize (w.alloc (.cells (cfgC x (.slice A 1 c) v18 v19) 27 (0, 0))) = wx at HB1 hc0 KM ⊢
  have hfd : ∀ W : World, (Instr.field 37 (.agg #[.string ⟨#[97]⟩, .bool false, .int .i64 1, .int .i64 0]) 2).run Try.prog W = .ok (.int .i64 1) W := fun W => by kernel_rfl
  go_wp2_with (first | (go_at_call 86; refine KM.out.mono ?_; rintro e w2 ⟨rfl, hb⟩; have HB2 := Lib.hid (below_step HB1.out hb); clear hb))
  go_ret
  exact ⟨rfl, HB2.out⟩
end Go.Proofs.Ytgiokbhedblkfaa.C
/- cohortlaw11.lives. -/
namespace Go.Proofs.Ytgiokbhedblkfaa.C
open Go.RowKit Go.Proofs.YtgiokbhedblkfaaW.PrintWords Go.Proofs.YtgiokbhedblkfaaW.PrintLast Go.Proofs.YtgiokbhedblkfaaW.PrintMore Go.Proofs.Ytgiokbhedblkfaa.H
set_option linter.unusedVariables false
set_option linter.unusedSimpArgs false
theorem C_nil {α : Type} (d : Kd α) (w : World) (A : Option Addr) : Kd.C d w A 0 [] := ⟨rfl, by omega, fun h => absurd h (Nat.lt_irrefl _)⟩
theorem C_prefix {α : Type} {d : Kd α} {w : World} {A : Option Addr} {n : Nat} {xs : List α} (h : Kd.C d w A n xs) (m : Nat) (hm : m ≤ n) : Kd.C d w A m (xs.take m) := by
  refine ⟨by rw [List.length_take, h.1]; omega, Nat.le_trans hm h.2.1, fun h0 => ?_⟩
  obtain ⟨ad, e, hc⟩ := h.2.2 (by omega)
  refine ⟨ad, e, fun j p hj => hc j p ?_⟩
  have h1 := (List.getElem?_eq_some_iff.1 hj).1
  rw [List.length_take] at h1
  rwa [List.getElem?_take, if_pos (by omega)] at hj
theorem one_bytes (w : World) (A : Option Addr) (c : Nat) (h : Kd.C k37 w A 1 [onePool]) : Calls Try.prog 15 #[cfgV oneX (.slice A 1 c) (.slice none 0 0) (.slice none 0 0)] w fun e w' => ∃ v0, e = .returned (.tuple #[v0, .int .i64 0]) ∧ Kd.R (Kd.int .u8) 5 w' w.heap.size (fun _ => True) v0 (bytesC oneX) ∧ Below w.heap.size w w' := by
  have h1 := bytes_calls oneX A none none c 0 0 w h (C_nil _ _ _) (C_nil _ _ _)
  rw [check_one, if_pos rfl] at h1
  exact h1
theorem zero_check (w : World) : Calls Try.prog 14 #[cfgV zeroX (.slice none 0 0) (.slice none 0 0) (.slice none 0 0)] w fun e w' => e = .returned (.int .i64 2) ∧ Below w.heap.size w w' := by
  have h1 := check_calls zeroX none none none 0 0 0 w (C_nil _ _ _) (C_nil _ _ _) (C_nil _ _ _)
  rw [check_zeroX] at h1
  exact h1
theorem two_check (w : World) (A : Option Addr) (c : Nat) (h : Kd.C k37 w A 2 [onePool, onePool]) : Calls Try.prog 14 #[cfgV twoX (.slice A 2 c) (.slice none 0 0) (.slice none 0 0)] w fun e w' => e = .returned (.int .i64 8) ∧ Below w.heap.size w w' := by
  have h1 := check_calls twoX A none none c 0 0 w h (C_nil _ _ _) (C_nil _ _ _)
  rw [check_two] at h1
  exact h1
theorem less_check (w : World) (A : Option Addr) (c : Nat) (h : Kd.C k37 w A 1 [onePool]) : Calls Try.prog 14 #[cfgV lessX (.slice A 1 c) (.slice none 0 0) (.slice none 0 0)] w fun e w' => e = .returned (.int .i64 2) ∧ Below w.heap.size w w' := by
  have h1 := check_calls lessX A none none c 0 0 w h (C_nil _ _ _) (C_nil _ _ _)
  rw [check_less] at h1
  exact h1
/-- one, its row's slice written out. -/
theorem one_calls' (w : World) : Calls Try.prog 35 #[] w fun e w' => ∃ g c, e = .returned (.agg (cfgC oneX (.slice (some ⟨g, 0, none⟩) 1 c) (.slice none 0 0) (.slice none 0 0))) ∧ Kd.R k37 37 w' w.heap.size (fun _ => True) (.slice (some ⟨g, 0, none⟩) 1 c) [onePool] ∧ Below w.heap.size w w' :=
  (one_calls w).mono fun e w' ⟨v0, h1, h2, h3⟩ => by
    obtain ⟨g, c, hv, _⟩ := Kd.R_form h2 (by simp)
    subst hv
    exact ⟨g, c, h1, h2, h3⟩
set_option maxHeartbeats 16000000 in
set_option maxRecDepth 100000 in
theorem lives_calls (w : World) : Calls Try.prog 11 #[] w fun e w' => e = .returned (.bool true) ∧ Below w.heap.size w w' := by
  go_enter Try.func11, Try.ntmps11
  go_upto_region 2 with (first
    | (go_at_call 35; refine (one_calls' _).mono ?_; rintro e w1 ⟨g1, c1, rfl, hr, hb⟩; have KB := Lib.hid (one_bytes w1 _ c1 (Kd.R_reads' hr).2.2); simp only [cfgV] at KB; have HB1 := Lib.hid hb; clear hr hb)
    | (go_at_call 15; refine KB.out.mono ?_; rintro e w2 ⟨v2, rfl, hr2, hb2⟩; have HR2 := Lib.hid (Kd.R_lower hr2 HB1.out.size); have HB2 := Lib.hid (below_step HB1.out hb2); clear hr2 hb2))
  obtain ⟨bs, hbs⟩ : ∃ bs, bytesC oneX = bs := ⟨_, rfl⟩
  have hbl : bs.length = 64 := by rw [← hbs]; exact bytes_one_len
  have HBH := Lib.hid (show bs.take 3 = [1, 1, 97] by rw [← hbs]; exact bytes_one_head)
  rw [hbs] at HR2
  clear hbs
  obtain ⟨g2, c2, hv2, _⟩ := Kd.R_form HR2.out (by rw [hbl]; omega)
  rw [hbl] at hv2
  subst hv2
  have HQ2 := Lib.hid (show 64 ≤ c2 by have h := (Kd.R_reads' HR2.out).2.1; exact h)
  clear hbl
  go_upto_region 3 with (first
    | (go_at_call 35; refine (one_calls' _).mono ?_; rintro e w3 ⟨g3, c3, rfl, hr, hb⟩; have HR3 := Lib.hid (Kd.R_lower hr HB2.out.size); have HB3 := Lib.hid (below_step HB2.out hb); have HS2 := Lib.hid (Kd.R_below HR2.out hb); clear hr hb)
    | ((with_reducible refine gate_storeT 27 rfl ?_); refine wpList_store_row rfl 27 _ _ rfl _ _ rfl rfl 27 _ (heap_alloc_new _ _) (by kernel_rfl) rfl (cfg_one oneX _ _ _ rfl rfl rfl) ?_; rw [setRow_alloc]))
  rw [put_no_]
  have hbl := (Below.refl w3.heap.size w3).alloc (Nat.le_refl _) (.cells (cfgC oneX (.slice (some ⟨g3, 0, none⟩) 1 c3) (.slice none 0 0) (.slice none 0 0)) 27 (0, 0))
  have hbd := below_step hbl (below_drew (Below.refl _ _))
  have HGa := Lib.hid (blk_call (below_drew (Below.refl _ _)) (heap_alloc_new w3 (.cells (cfgC oneX (.slice (some ⟨g3, 0, none⟩) 1 c3) (.slice none 0 0) (.slice none 0 0)) 27 (0, 0))))
  have HBa := Lib.hid (below_step HB3.out hbd)
  have HRa := Lib.hid (Kd.R_below HR3.out hbd)
  have HSa := Lib.hid (Kd.R_below HS2.out hbd)
  generalize (w3.alloc (.cells (cfgC oneX (.slice (some ⟨g3, 0, none⟩) 1 c3) (.slice none 0 0) (.slice none 0 0)) 27 (0, 0))) = wx at HGa HBa HRa HSa ⊢
  clear hbl hbd
  obtain ⟨gc, hgc⟩ : ∃ gc, w3.heap.size = gc := ⟨_, rfl⟩
  rw [hgc] at HGa ⊢
  have HGC := Lib.hid (show w.heap.size ≤ gc by rw [← hgc]; exact HB3.out.size)
  clear hgc
  have HEL := Lib.hid (fun W (h : Kd.R k37 37 W w.heap.size (fun _ => True) (.slice (some ⟨g3, 0, none⟩) 1 c3) [onePool]) => show ∀ j v, ([.string ⟨#[97]⟩, .bool false, .int .i64 1, .int .i64 0] : List Value)[j]? = some v → W.cell? ((⟨g3, 0, none⟩ : Addr).add j) = some v from fun j v hv => by
    obtain ⟨ad, e, hcc⟩ := kPool_C (Kd.R_reads' h).2.2 0 (by simp)
    cases e
    have h2 := hcc j v hv
    rwa [Nat.zero_mul, addr_add0] at h2)
  refine start_ (n := 10) (S := fun w' => w'.cell? ⟨gc, 0, none⟩ = some (.slice (some ⟨g3, 0, none⟩) 1 c3) ∧ ∀ j v, ([.string ⟨#[97]⟩, .bool false, .int .i64 1, .int .i64 0] : List Value)[j]? = some v → w'.cell? ((⟨g3, 0, none⟩ : Addr).add j) = some v) (ds := [7, 9]) #[false, false, false, false, false, false, false, false, false, false] (by kernel_rfl) rfl rfl ⟨blk_cellk HGa.out 0 rfl, HEL.out _ HRa.out⟩ (fun hHeld => ?_)
  generalize wx.drew = Wa at HGa HBa HRa HSa hHeld ⊢
  refine pure_ (i := 0) (N := some 13) (v := ?_) (a' := ?_) #[true, false, false, false, false, false, false, false, false, false] rfl rfl (by kernel_rfl) (fun _ _ _ h => h) (Or.inl ⟨by rfl, ?_⟩) ?_ ?_
  rotate_left
  · intro w'
    go_simp
    with_reducible rfl
  rotate_left
  · simp only [Act.put, List.setIfInBounds_toArray, List.set_cons_zero, List.set_cons_succ, i64_w, i32_w]
    rfl
  refine pure_ (i := 2) (N := some 15) (v := ?_) (a' := ?_) #[true, false, true, false, false, false, false, false, false, false] rfl rfl (by kernel_rfl) (fun _ _ _ h => h) (Or.inl ⟨by rfl, ?_⟩) ?_ ?_
  rotate_left
  · intro w'
    go_simp
    with_reducible rfl
  rotate_left
  · simp only [Act.put, List.setIfInBounds_toArray, List.set_cons_zero, List.set_cons_succ, i64_w, i32_w]
    rfl
  refine take_ (i := 1) (N := some 14) (v := ?_) (a' := ?_) #[true, true, true, false, false, false, false, false, false, false] rfl rfl (by kernel_rfl) (fun _ _ _ h => h) (Or.inl ⟨by rfl, ?_⟩) hHeld ?_ ?_
  rotate_left
  · rintro w' ⟨s0, s1⟩
    go_simp
    with_reducible rfl
  rotate_left
  · simp only [Act.put, List.setIfInBounds_toArray, List.set_cons_zero, List.set_cons_succ, i64_w, i32_w]
    rfl
  refine take_ (i := 3) (N := some 16) (v := ?_) (a' := ?_) #[true, true, true, true, false, false, false, false, false, false] rfl rfl (by kernel_rfl) (fun _ _ _ h => h) (Or.inl ⟨by rfl, ?_⟩) hHeld ?_ ?_
  rotate_left
  · rintro w' ⟨s0, s1⟩
    go_simp
    with_reducible rfl
  rotate_left
  · simp only [Act.put, List.setIfInBounds_toArray, List.set_cons_zero, List.set_cons_succ, i64_w, i32_w]
    rfl
  refine pure_ (i := 4) (N := some 17) (v := ?_) (a' := ?_) #[true, true, true, true, true, false, false, false, false, false] rfl rfl (by kernel_rfl) (fun _ _ _ h => h) (Or.inl ⟨by rfl, ?_⟩) ?_ ?_
  rotate_left
  · intro w'
    go_simp
    with_reducible rfl
  rotate_left
  · simp only [Act.put, List.setIfInBounds_toArray, List.set_cons_zero, List.set_cons_succ, i64_w, i32_w]
    rfl
  refine take_ (i := 5) (N := some 18) (v := ?_) (a' := ?_) #[true, true, true, true, true, true, false, false, false, false] rfl rfl (by kernel_rfl) (fun _ _ _ h => h) (Or.inl ⟨by rfl, ?_⟩) hHeld ?_ ?_
  rotate_left
  · rintro w' ⟨s0, s1⟩
    refine exec_load_any 37 (.tmp 17) ?_ ⟨g3, 0, none⟩ ?_ [.string ⟨#[97]⟩, .bool false, .int .i64 1, .int .i64 0] _ s1 Try.underlying37 rfl (by kernel_rfl)
    · rfl
    · rfl
  rotate_left
  · simp only [Act.put, List.setIfInBounds_toArray, List.set_cons_zero, List.set_cons_succ, i64_w, i32_w]
    rfl
  refine one_ (i := 6) (N := some 19) #[true, true, true, true, true, true, true, false, false, false] rfl rfl (by kernel_rfl) (by decide) (fun K hK => ?_)
  refine fds_ (by rfl) rfl 22 37 1 _ rfl Try.underlying22 #[.string ⟨#[97]⟩, .bool false, .int .i64 1, .int .i64 0] (by kernel_rfl) ?_
  have hbl := (Below.refl Wa.heap.size Wa).alloc (Nat.le_refl _) (.cells #[.string ⟨#[97]⟩, .bool false, .int .i64 1, .int .i64 0] 37 (0, 0))
  have HLb := Lib.hid (Kd.R_reads' (R_onePool Wa w.heap.size HBa.out.size)).2.2
  have HBb := Lib.hid (below_step HBa.out hbl)
  have HRb := Lib.hid (Kd.R_below HRa.out hbl)
  have HSb := Lib.hid (Kd.R_below HSa.out hbl)
  have HGb := Lib.hid (blk_call hbl HGa.out)
  generalize (Wa.alloc (.cells #[.string ⟨#[97]⟩, .bool false, .int .i64 1, .int .i64 0] 37 (0, 0))) = Wb at HLb HBb HRb HSb HGb ⊢
  clear hbl
  refine hK.out _ _ (⟨blk_cellk HGb.out 0 rfl, HEL.out _ HRb.out⟩) (fun hHeld => ?_)
  clear hK K
  refine norm_ (a' := ?_) ?_ ?_
  rotate_left
  · show Act.put _ (some 19) _ = _
    simp only [Act.put, List.setIfInBounds_toArray, List.set_cons_zero, List.set_cons_succ, i64_w, i32_w]
    rfl
  refine last_ (i := 7) (N := some 20) #[true, true, true, true, true, true, true, true, false, false] rfl rfl (by kernel_rfl) (by decide) (fun K hK => ?_)
  refine Kd.R_append_rows_step k37 (w0 := w) w.heap.size (by rfl) (.tmp 14) (.tmp 19) 22 37 (.agg #[(.string ⟨#[]⟩), (.bool false), (.int .i64 0), (.int .i64 0)]) 40 rfl Try.underlying22 infoLPool rfl (by decide) (by decide) (.slice (some ⟨g3, 0, none⟩) 1 c3) [onePool] [onePool] (some ⟨Wa.heap.size, 0, none⟩) 1 1 (fun _ => True) (fun _ => False) rfl rfl HRb.out HLb.out (fun x cs h => kmPool h) (fun _ h => h.elim) (fun _ _ => trivial) HBb.out HBb.out.size (by simp) ?_
  intro vd Wc ho hb hg hat
  obtain ⟨gd, cd, hvd, _⟩ := Kd.R_form ho (by simp)
  subst hvd
  have HTc := Lib.hid ho
  have HBc := Lib.hid hb
  have HGc := Lib.hid ((hg.block gc (blk_lt HGb.out) (Kd.R_ne HRb.out HGb.out (by decide))).trans HGb.out)
  have HSc := Lib.hid (Kd.R_over HSb.out HRb.out (by decide) hg)
  clear ho hb hg hat
  refine hK.out _ _ ?_
  clear hK K
  refine norm_ (a' := ?_) ?_ ?_
  rotate_left
  · show Act.put _ (some 20) _ = _
    simp only [Act.put, List.setIfInBounds_toArray, List.set_cons_zero, List.set_cons_succ, i64_w, i32_w]
    rfl
  refine pure_ (i := 8) (N := some 21) (v := ?_) (a' := ?_) #[true, true, true, true, true, true, true, true, true, false] rfl rfl (by kernel_rfl) (fun _ _ _ h => h) (Or.inl ⟨by rfl, ?_⟩) ?_ ?_
  rotate_left
  · intro w'
    go_simp
    with_reducible rfl
  rotate_left
  · simp only [Act.put, List.setIfInBounds_toArray, List.set_cons_zero, List.set_cons_succ, i64_w, i32_w]
    rfl
  refine last_ (i := 9) (N := none) #[true, true, true, true, true, true, true, true, true, true] rfl rfl (by kernel_rfl) (by decide) (fun K hK => ?_)
  have hc0 := blk_cellk HGc.out 0 (v := .slice (some ⟨g3, 0, none⟩) 1 c3) rfl
  have hf0 := blk_frozen HGc.out 0
  refine skip_ (w1 := ?_) (by rfl) rfl ?_ ?_
  rotate_left 1
  · go_simp
    rfl
  refine hK.out _ _ ?_
  clear hK K hc0 hf0
  
  refine done_ (by kernel_rfl) ?_
  have HGd := Lib.hid (show (Wc.setCell ⟨gc, 0, none⟩ (.slice (some ⟨gd, 0, none⟩) 2 cd)).heap[gc]? = some (.cells (cfgC twoX (.slice (some ⟨gd, 0, none⟩) 2 cd) (.slice none 0 0) (.slice none 0 0)) 27 (0, 0)) from heap_setCell_in HGc.out 0 _)
  have HBd := Lib.hid (HBc.out.setCell (p := ⟨gc, 0, none⟩) HGC.out (.slice (some ⟨gd, 0, none⟩) 2 cd))
  have HTd := Lib.hid (Kd.R_set HTc.out HGc.out (by decide) 0 (.slice (some ⟨gd, 0, none⟩) 2 cd))
  have HSd := Lib.hid (Kd.R_set HSc.out HGc.out (by decide) 0 (.slice (some ⟨gd, 0, none⟩) 2 cd))
  clear HSa HSb HSc HRa HRb HGa HGb HGc HBa HBb HBc HTc HLb HEL HR3 HS2 HB3 hHeld HR2 HB2 HB1
  show Exit.then _ _ Exit.normal _ (Wc.setCell ⟨gc, 0, none⟩ (.slice (some ⟨gd, 0, none⟩) 2 cd))
  generalize (Wc.setCell ⟨gc, 0, none⟩ (.slice (some ⟨gd, 0, none⟩) 2 cd)) = Wd at HGd HBd HTd HSd ⊢
  go_upto_region 5 with (first
    | (go_at_call 35; refine (one_calls' _).mono ?_; rintro e we ⟨ge, ce, rfl, hr, hb⟩; have HRe := Lib.hid (Kd.R_lower hr HBd.out.size); have HBe := Lib.hid (below_step HBd.out hb); have HSe := Lib.hid (Kd.R_below HSd.out hb); have HTe := Lib.hid (Kd.R_below HTd.out hb); have HGe := Lib.hid (blk_call hb HGd.out); clear hr hb)
    | ((with_reducible refine gate_storeT 27 rfl ?_); refine wpList_store_row rfl 27 _ _ rfl _ _ rfl rfl 27 _ (heap_alloc_new _ _) (by kernel_rfl) rfl (cfg_one oneX _ _ _ rfl rfl rfl) ?_; rw [setRow_alloc]))
  rw [put_no_]
  have hbl := (Below.refl we.heap.size we).alloc (Nat.le_refl _) (.cells (cfgC oneX (.slice (some ⟨ge, 0, none⟩) 1 ce) (.slice none 0 0) (.slice none 0 0)) 27 (0, 0))
  have HKf := Lib.hid (heap_alloc_new we (.cells (cfgC oneX (.slice (some ⟨ge, 0, none⟩) 1 ce) (.slice none 0 0) (.slice none 0 0)) 27 (0, 0)))
  have HBf := Lib.hid (below_step HBe.out hbl)
  have HRf := Lib.hid (Kd.R_below HRe.out hbl)
  have HSf := Lib.hid (Kd.R_below HSe.out hbl)
  have HTf := Lib.hid (Kd.R_below HTe.out hbl)
  have HGf := Lib.hid (blk_call hbl HGe.out)
  generalize (we.alloc (.cells (cfgC oneX (.slice (some ⟨ge, 0, none⟩) 1 ce) (.slice none 0 0) (.slice none 0 0)) 27 (0, 0))) = wf at HKf HBf HRf HSf HTf HGf ⊢
  obtain ⟨gf, hgf⟩ : ∃ gf, we.heap.size = gf := ⟨_, rfl⟩
  have HGF := Lib.hid (show gc < gf ∧ w.heap.size ≤ gf by rw [← hgf]; exact ⟨blk_lt HGe.out, HBe.out.size⟩)
  rw [hgf] at HKf ⊢
  clear hgf hbl HBe HRe HSe HTe HGe HGd HBd HTd HSd
  have hc5 := blk_cellk HKf.out 5 (v := .int .i64 10) rfl
  have hf5 := blk_frozen HKf.out 5
  go_upto_region 6 with (fail)
  have HKg := Lib.hid (show (wf.setCell ⟨gf, 5, none⟩ (.int .i64 (-1))).heap[gf]? = some (.cells (cfgC lessX (.slice (some ⟨ge, 0, none⟩) 1 ce) (.slice none 0 0) (.slice none 0 0)) 27 (0, 0)) from heap_setCell_in HKf.out 5 _)
  have HBg := Lib.hid (HBf.out.setCell (p := ⟨gf, 5, none⟩) HGF.out.2 (.int .i64 (-1)))
  have HRg := Lib.hid (Kd.R_set HRf.out HKf.out (by decide) 5 (.int .i64 (-1)))
  have HSg := Lib.hid (Kd.R_set HSf.out HKf.out (by decide) 5 (.int .i64 (-1)))
  have HTg := Lib.hid (Kd.R_set HTf.out HKf.out (by decide) 5 (.int .i64 (-1)))
  have HGg := Lib.hid ((heap_setCell_ne HKf.out 5 (.int .i64 (-1)) (by have := HGF.out.1; omega)).trans HGf.out)
  clear hc5 hf5
  generalize (wf.setCell ⟨gf, 5, none⟩ (.int .i64 (-1))) = wg at HKg HBg HRg HSg HTg HGg ⊢
  clear HKf HBf HRf HSf HTf HGf
  go_upto_region 7 with (first
    | (go_at_call 35; refine (one_calls' _).mono ?_; rintro e wh ⟨gh, ch, rfl, hr, hb⟩; have KC := Lib.hid (classes_one oneX _ ch (.slice none 0 0) (.slice none 0 0) wh (Kd.R_reads' hr).2.2); simp only [cfgV] at KC; have HBh := Lib.hid (below_step HBg.out hb); have HSh := Lib.hid (Kd.R_below HSg.out hb); have HTh := Lib.hid (Kd.R_below HTg.out hb); have HGh := Lib.hid (blk_call hb HGg.out); have HKh := Lib.hid (blk_call hb HKg.out); have HRh := Lib.hid (Kd.R_below HRg.out hb); clear hr hb)
    | (go_at_call 36; refine KC.out.mono ?_; rintro e wi ⟨rfl, hb⟩; have HBi := Lib.hid (below_step HBh.out hb); have HSi := Lib.hid (Kd.R_below HSh.out hb); have HTi := Lib.hid (Kd.R_below HTh.out hb); have HGi := Lib.hid (blk_call hb HGh.out); have HKi := Lib.hid (blk_call hb HKh.out); have HRi := Lib.hid (Kd.R_below HRh.out hb); clear hb))
  have hbl := (Below.refl wi.heap.size wi).alloc (Nat.le_refl _) (.cells #[.int .u8 1, .int .u8 1, .int .u8 97] 5 (0, 0))
  have KS := Lib.hid (show Calls Try.prog 22 #[.slice (some ⟨g2, 0, none⟩) 3 c2, .slice (some ⟨wi.heap.size, 0, none⟩) 3 3] (wi.alloc (.cells #[.int .u8 1, .int .u8 1, .int .u8 97] 5 (0, 0))) fun e w' => e = .returned (.bool true) ∧ Drawn0 (wi.alloc (.cells #[.int .u8 1, .int .u8 1, .int .u8 97] 5 (0, 0))) w' by
    have h1 := C_prefix (Kd.C_below (Kd.R_reads' HSi.out).2.2 hbl) 3 (by rw [← (Kd.R_reads' HSi.out).1]; omega)
    rw [HBH.out] at h1
    exact cohortref00_Same.calls (some ⟨g2, 0, none⟩) c2 [1, 1, 97] (some ⟨wi.heap.size, 0, none⟩) 3 [1, 1, 97] true _ h1 (by have := HQ2.out; simp; omega) (Go.Proofs.Ytgiokbhedblkfaa.H.lit_reads wi [1, 1, 97] (by simp)) (by simp) (by unfold cohortref00_Same.f; simp))
  have HBj := Lib.hid (below_step HBi.out hbl)
  have HGj := Lib.hid (blk_call hbl HGi.out)
  have HKj := Lib.hid (blk_call hbl HKi.out)
  have HTj := Lib.hid (Kd.R_below HTi.out hbl)
  have HRj := Lib.hid (Kd.R_below HRi.out hbl)
  have hq3 : 3 ≤ c2 := by have := HQ2.out; omega
  have KZ := Lib.hid (fun W => zero_check W)
  simp only [cfgV, cfgC, zeroX] at KZ
  clear hbl HBi HGi HKi HTi HRi HSi HSh HTh HGh HKh HRh HBh
  go_wp2_with (first
    | (go_at_call 22; refine KS.out.mono ?_; rintro e wk ⟨rfl, hd⟩; have hb := hd.below; have HBk := Lib.hid (below_step HBj.out hb); have HGk := Lib.hid (blk_call hb HGj.out); have HKk := Lib.hid (blk_call hb HKj.out); have HTk := Lib.hid (Kd.R_below HTj.out hb); have HRk := Lib.hid (Kd.R_below HRj.out hb); clear hb hd)
    | (go_at_call 14; refine KLs.out.mono ?_; rintro e wn ⟨rfl, hb⟩; have HBn := Lib.hid (below_step HBm.out hb); clear hb)
    | (go_at_call 14; refine KTw.out.mono ?_; rintro e wm ⟨rfl, hb⟩; have HBm := Lib.hid (below_step HBl.out hb); have HKm := Lib.hid (blk_call hb HKl.out); have KLs := Lib.hid (less_check wm _ ce (Kd.R_reads' (Kd.R_below HRl.out hb)).2.2); simp only [cfgV] at KLs; clear hb)
    | (go_at_call 14; refine (KZ.out _).mono ?_; rintro e wl ⟨rfl, hb⟩; have HBl := Lib.hid (below_step HBk.out hb); have HGl := Lib.hid (blk_call hb HGk.out); have HKl := Lib.hid (blk_call hb HKk.out); have HRl := Lib.hid (Kd.R_below HRk.out hb); have KTw := Lib.hid (two_check wl _ cd (Kd.R_reads' (Kd.R_below HTk.out hb)).2.2); simp only [cfgV] at KTw; clear hb)
    | ((with_reducible refine gate_load 27 rfl ?_); refine load_row_g (by rfl) 27 _ rfl _ rfl 27 _ _ _ HKm.out Try.underlying27 rfl (by kernel_rfl) ?_)
    | ((with_reducible refine gate_load 27 rfl ?_); refine load_row_g (by rfl) 27 _ rfl _ rfl 27 _ _ _ HGl.out Try.underlying27 rfl (by kernel_rfl) ?_)
    | (go_at_call 35; refine (one_calls' _).mono ?_; rintro e wo ⟨go, co, rfl, hr, hb⟩; have KW := Lib.hid (weight_one oneX _ co (.slice none 0 0) (.slice none 0 0) wo (Kd.R_reads' hr).2.2); simp only [cfgV] at KW; have HBo := Lib.hid (below_step HBn.out hb); clear hr hb)
    | (go_at_call 37; refine KW.out.mono ?_; rintro e wp ⟨rfl, hb⟩; have HBp := Lib.hid (below_step HBo.out hb); clear hb))
  go_ret
  exact ⟨rfl, HBp.out⟩
end Go.Proofs.Ytgiokbhedblkfaa.C
/- the document's Copy of a configuration. -/
namespace Go.Proofs.Ytgiokbhedblkfaa.C
open Go.RowKit Go.Proofs.YtgiokbhedblkfaaW.PrintWords Go.Proofs.YtgiokbhedblkfaaW.PrintLast Go.Proofs.YtgiokbhedblkfaaW.PrintMore Go.Proofs.Ytgiokbhedblkfaa.H
set_option linter.unusedVariables false
set_option linter.unusedSimpArgs false
set_option maxHeartbeats 8000000 in
set_option maxRecDepth 100000 in
theorem rcopy_calls (x : S27) (A0 A18 A19 : Option Addr) (c0 c18 c19 : Nat) (w : World) (h0 : Kd.C k37 w A0 x.f0.length x.f0) (h18 : Kd.C k39 w A18 x.f18.length x.f18) (h19 : Kd.C k41 w A19 x.f19.length x.f19)
    (l0 : x.f0.length * 40 ≤ 140737488355328) (l18 : x.f18.length * 16 ≤ 140737488355328) (l19 : x.f19.length * 24 ≤ 140737488355328) :
    Calls Try.prog 12 #[cfgV x (.slice A0 x.f0.length c0) (.slice A18 x.f18.length c18) (.slice A19 x.f19.length c19)] w fun e w' => ∃ v0 v18 v19 : Value, e = .returned (cfgV x v0 v18 v19) ∧ Kd.R k37 37 w' w.heap.size (fun _ => True) v0 x.f0 ∧ Kd.R k39 39 w' w.heap.size (fun _ => True) v18 x.f18 ∧ Kd.R k41 41 w' w.heap.size (fun _ => True) v19 x.f19 ∧ Below w.heap.size w w' := by
  obtain ⟨C0, hC0⟩ : ∃ C0, C0 = cfgC x (.slice A0 x.f0.length c0) (.slice A18 x.f18.length c18) (.slice A19 x.f19.length c19) := ⟨_, rfl⟩
  have e0 : C0[0]? = some (.slice A0 x.f0.length c0) := by rw [hC0]; rfl
  have e18 : C0[18]? = some (.slice A18 x.f18.length c18) := by rw [hC0]; rfl
  have e19 : C0[19]? = some (.slice A19 x.f19.length c19) := by rw [hC0]; rfl
  have hx : ∀ u0 u18 u19, ((C0.setIfInBounds 0 u0).setIfInBounds 18 u18).setIfInBounds 19 u19 = cfgC x u0 u18 u19 := by intro u0 u18 u19; rw [hC0]; rfl
  have hv : cfgV x (.slice A0 x.f0.length c0) (.slice A18 x.f18.length c18) (.slice A19 x.f19.length c19) = .agg C0 := by rw [hC0]; rfl
  rw [hv]
  have HX := Lib.hid hx
  have H0 := Lib.hid h0
  have H18 := Lib.hid h18
  have H19 := Lib.hid h19
  have HL := Lib.hid (And.intro l0 (And.intro l18 l19))
  have HE := Lib.hid (And.intro e0 (And.intro e18 e19))
  obtain ⟨n0, hn0⟩ : ∃ n, x.f0.length = n := ⟨_, rfl⟩
  obtain ⟨n18, hn18⟩ : ∃ n, x.f18.length = n := ⟨_, rfl⟩
  obtain ⟨n19, hn19⟩ : ∃ n, x.f19.length = n := ⟨_, rfl⟩
  rw [hn0] at H0 HE HL
  rw [hn18] at H18 HE HL
  rw [hn19] at H19 HE HL
  clear hC0 e0 e18 e19 hx hv h0 h18 h19 l0 l18 l19 hn0 hn18 hn19
  have g1 := heap_alloc_new w (.cells C0 27 (0, 0))
  have b1 := (Below.refl w.heap.size w).alloc (Nat.le_refl _) (.cells C0 27 (0, 0))
  have HBa := Lib.hid (b1.alloc b1.size (.cells #[.slice none 0 0, .int .u8 0, .int .i64 0, .bool false, .int .i64 0, .int .i64 0, .int .i64 0, .int .i64 0, .int .i64 0, .int .i64 0, .int .u64 0, .int .u64 0, .int .u64 0, .int .u64 0, .int .u64 0, .int .u64 0, .bool false, .int .i64 0, .slice none 0 0, .slice none 0 0] 27 (0, 0)))
  have HGa := Lib.hid ((Below.heap_alloc (w.alloc (.cells C0 27 (0, 0))) (.cells #[.slice none 0 0, .int .u8 0, .int .i64 0, .bool false, .int .i64 0, .int .i64 0, .int .i64 0, .int .i64 0, .int .i64 0, .int .i64 0, .int .u64 0, .int .u64 0, .int .u64 0, .int .u64 0, .int .u64 0, .int .u64 0, .bool false, .int .i64 0, .slice none 0 0, .slice none 0 0] 27 (0, 0)) w.heap.size (blk_lt g1)).trans g1)
  have g2 := heap_alloc_new (w.alloc (.cells C0 27 (0, 0))) (.cells #[.slice none 0 0, .int .u8 0, .int .i64 0, .bool false, .int .i64 0, .int .i64 0, .int .i64 0, .int .i64 0, .int .i64 0, .int .i64 0, .int .u64 0, .int .u64 0, .int .u64 0, .int .u64 0, .int .u64 0, .int .u64 0, .bool false, .int .i64 0, .slice none 0 0, .slice none 0 0] 27 (0, 0))
  rw [World.size_alloc] at g2
  have HRa := Lib.hid g2
  clear g1 g2 b1
  go_enter Try.func12, Try.ntmps12
  go_upto_region 4 with (fail)
  generalize ((w.alloc (.cells C0 27 (0, 0))).alloc (.cells #[.slice none 0 0, .int .u8 0, .int .i64 0, .bool false, .int .i64 0, .int .i64 0, .int .i64 0, .int .i64 0, .int .i64 0, .int .i64 0, .int .u64 0, .int .u64 0, .int .u64 0, .int .u64 0, .int .u64 0, .int .u64 0, .bool false, .int .i64 0, .slice none 0 0, .slice none 0 0] 27 (0, 0))) = Wa at HBa HGa HRa ⊢
  obtain ⟨gb, hgb⟩ : ∃ gb, w.heap.size = gb := ⟨_, rfl⟩
  rw [hgb] at HGa HRa ⊢
  have HGB := Lib.hid hgb
  clear hgb
  have HCa := Lib.hid (show Wa.heap.size = Wa.heap.size from rfl)
  have hc0 := blk_cellk HGa.out 0 (v := .slice A0 n0 c0) (HE.out.1)
  have hf0 := blk_frozen HGa.out 0
  go_upto_region 5 with (first
    | ((with_reducible refine gate_builtin (b := .append) (xs := #[.tmp 6, .tmp 8]) rfl ?_); at_builtin; refine Kd.R_append_rows k37 (w0 := w) w.heap.size rfl (.tmp 6) (.tmp 8) 22 37 (.agg #[(.string ⟨#[]⟩), (.bool false), (.int .i64 0), (.int .i64 0)]) 40 rfl Try.underlying22 infoLPool rfl (by decide) (by decide) (.slice none 0 0) [] x.f0 A0 n0 c0 (fun _ => True) (fun _ => False) rfl rfl (Kd.R_nil _ _ _ _ _) (Kd.C_below H0.out HBa.out) (fun x cs h => kmPool h) (fun _ h => h.elim) (fun _ _ => trivial) HBa.out HBa.out.size (by simpa using HL.out.1) ?_; intro v1 w1 ho hb hg hat; obtain ⟨P0, q0, hu⟩ := Kd.R_slice ho; subst hu; have HV0 := Lib.hid ho; have HBb := Lib.hid hb; have HGb := Lib.hid ((hg.block gb (blk_lt HGa.out) (by simp [Value.ownBlock])).trans HGa.out); have HRb := Lib.hid ((hg.block (gb + 1) (blk_lt HRa.out) (by simp [Value.ownBlock])).trans HRa.out); clear ho hb hg hat hc0 hf0; have hc0 := blk_cellk HGb.out 0 (v := .slice A0 n0 c0) (HE.out.1); have hf0 := blk_frozen HGb.out 0))
  clear hc0 hf0
  have HGc := Lib.hid (heap_setCell_in HGb.out 0 (.slice P0 x.f0.length q0))
  have HBc := Lib.hid (HBb.out.setCell (p := ⟨gb, 0, none⟩) (by show _ ≤ gb; rw [HGB.out]; exact Nat.le_refl _) (.slice P0 x.f0.length q0))
  have HRc := Lib.hid ((heap_setCell_ne HGb.out 0 (.slice P0 x.f0.length q0) (by omega)).trans HRb.out)
  have HT := Lib.hid (Kd.R_set HV0.out HGb.out (by decide) 0 (.slice P0 x.f0.length q0))
  clear HV0
  have HV0 := HT
  clear HT
  (try rw [put_no_])
  generalize w1.setCell ⟨gb, 0, none⟩ (.slice P0 x.f0.length q0) = Wc at HGc HBc HRc HV0 ⊢
  have hc0 := blk_cellk HGc.out 18 (v := .slice A18 n18 c18) (by rw [Array.getElem?_setIfInBounds_ne (by decide)]; exact HE.out.2.1)
  have hf0 := blk_frozen HGc.out 18
  go_upto_region 6 with (first
    | ((with_reducible refine gate_builtin (b := .append) (xs := #[.tmp 11, .tmp 13]) rfl ?_); at_builtin; refine Kd.R_append_rows k39 (w0 := w) w.heap.size rfl (.tmp 11) (.tmp 13) 24 39 (.agg #[(.int .i64 0), (.int .i64 0)]) 16 rfl Try.underlying24 infoLBand rfl (by decide) (by decide) (.slice none 0 0) [] x.f18 A18 n18 c18 (fun _ => True) (fun _ => False) rfl rfl (Kd.R_nil _ _ _ _ _) (Kd.C_below H18.out HBc.out) (fun x cs h => kmBand h) (fun _ h => h.elim) (fun _ _ => trivial) HBc.out HBc.out.size (by simpa using HL.out.2.1) ?_; intro v1 w1 ho hb hg hat; obtain ⟨P18, q18, hu⟩ := Kd.R_slice ho; subst hu; have HV18 := Lib.hid ho; have HBd := Lib.hid hb; have HGd := Lib.hid ((hg.block gb (blk_lt HGc.out) (by simp [Value.ownBlock])).trans HGc.out); have HRd := Lib.hid ((hg.block (gb + 1) (blk_lt HRc.out) (by simp [Value.ownBlock])).trans HRc.out); have HT := Lib.hid (Kd.R_step HV0.out (fun k _ hk => hg.block k hk (by simp [Value.ownBlock]))); clear HV0; have HV0 := HT; clear HT; clear ho hb hg hat hc0 hf0; have hc0 := blk_cellk HGd.out 18 (v := .slice A18 n18 c18) (by rw [Array.getElem?_setIfInBounds_ne (by decide)]; exact HE.out.2.1); have hf0 := blk_frozen HGd.out 18))
  clear hc0 hf0
  have HGe := Lib.hid (heap_setCell_in HGd.out 18 (.slice P18 x.f18.length q18))
  have HBe := Lib.hid (HBd.out.setCell (p := ⟨gb, 18, none⟩) (by show _ ≤ gb; rw [HGB.out]; exact Nat.le_refl _) (.slice P18 x.f18.length q18))
  have HRe := Lib.hid ((heap_setCell_ne HGd.out 18 (.slice P18 x.f18.length q18) (by omega)).trans HRd.out)
  have HT := Lib.hid (Kd.R_set HV0.out HGd.out (by decide) 18 (.slice P18 x.f18.length q18))
  clear HV0
  have HV0 := HT
  clear HT
  have HT := Lib.hid (Kd.R_set HV18.out HGd.out (by decide) 18 (.slice P18 x.f18.length q18))
  clear HV18
  have HV18 := HT
  clear HT
  (try rw [put_no_])
  generalize w1.setCell ⟨gb, 18, none⟩ (.slice P18 x.f18.length q18) = We at HGe HBe HRe HV0 HV18 ⊢
  have hc0 := blk_cellk HGe.out 19 (v := .slice A19 n19 c19) (by rw [Array.getElem?_setIfInBounds_ne (by decide), Array.getElem?_setIfInBounds_ne (by decide)]; exact HE.out.2.2)
  have hf0 := blk_frozen HGe.out 19
  go_upto_region 7 with (first
    | ((with_reducible refine gate_builtin (b := .append) (xs := #[.tmp 16, .tmp 18]) rfl ?_); at_builtin; refine Kd.R_append_rows k41 (w0 := w) w.heap.size rfl (.tmp 16) (.tmp 18) 25 41 (.agg #[(.int .u64 0), (.int .u64 0), (.int .i64 0)]) 24 rfl Try.underlying25 infoLPlan rfl (by decide) (by decide) (.slice none 0 0) [] x.f19 A19 n19 c19 (fun _ => True) (fun _ => False) rfl rfl (Kd.R_nil _ _ _ _ _) (Kd.C_below H19.out HBe.out) (fun x cs h => kmPlan h) (fun _ h => h.elim) (fun _ _ => trivial) HBe.out HBe.out.size (by simpa using HL.out.2.2) ?_; intro v1 w1 ho hb hg hat; obtain ⟨P19, q19, hu⟩ := Kd.R_slice ho; subst hu; have HV19 := Lib.hid ho; have HBf := Lib.hid hb; have HGf := Lib.hid ((hg.block gb (blk_lt HGe.out) (by simp [Value.ownBlock])).trans HGe.out); have HRf := Lib.hid ((hg.block (gb + 1) (blk_lt HRe.out) (by simp [Value.ownBlock])).trans HRe.out); have HT := Lib.hid (Kd.R_step HV0.out (fun k _ hk => hg.block k hk (by simp [Value.ownBlock]))); clear HV0; have HV0 := HT; clear HT; have HT := Lib.hid (Kd.R_step HV18.out (fun k _ hk => hg.block k hk (by simp [Value.ownBlock]))); clear HV18; have HV18 := HT; clear HT; clear ho hb hg hat hc0 hf0; have hc0 := blk_cellk HGf.out 19 (v := .slice A19 n19 c19) (by rw [Array.getElem?_setIfInBounds_ne (by decide), Array.getElem?_setIfInBounds_ne (by decide)]; exact HE.out.2.2); have hf0 := blk_frozen HGf.out 19))
  clear hc0 hf0
  have HGg := Lib.hid (heap_setCell_in HGf.out 19 (.slice P19 x.f19.length q19))
  have HBg := Lib.hid (HBf.out.setCell (p := ⟨gb, 19, none⟩) (by show _ ≤ gb; rw [HGB.out]; exact Nat.le_refl _) (.slice P19 x.f19.length q19))
  have HRg := Lib.hid ((heap_setCell_ne HGf.out 19 (.slice P19 x.f19.length q19) (by omega)).trans HRf.out)
  have HT := Lib.hid (Kd.R_set HV0.out HGf.out (by decide) 19 (.slice P19 x.f19.length q19))
  clear HV0
  have HV0 := HT
  clear HT
  have HT := Lib.hid (Kd.R_set HV18.out HGf.out (by decide) 19 (.slice P19 x.f19.length q19))
  clear HV18
  have HV18 := HT
  clear HT
  have HT := Lib.hid (Kd.R_set HV19.out HGf.out (by decide) 19 (.slice P19 x.f19.length q19))
  clear HV19
  have HV19 := HT
  clear HT
  (try rw [put_no_])
  generalize w1.setCell ⟨gb, 19, none⟩ (.slice P19 x.f19.length q19) = Wg at HGg HBg HRg HV0 HV18 HV19 ⊢
  rw [HX.out] at HGg
  go_wp2_with (first
    | ((with_reducible refine gate_load 27 rfl ?_); refine wpList_load_row rfl 27 _ rfl _ rfl 27 _ _ _ HGg.out Try.underlying27 rfl (by kernel_rfl) ?_)
    | ((with_reducible refine gate_storeT 27 rfl ?_); refine wpList_store_row rfl 27 _ _ rfl _ _ rfl rfl 27 _ HRg.out (by kernel_rfl) rfl (cfg_one x _ _ _ rfl rfl rfl) ?_))
  exact bodyPost_ret (res_cell rfl rfl (run_loadVar_box 27 _ 27 _ _ _ (setRow_heap _ _ _ _ _ _ HRg.out) Try.underlying27 rfl (by kernel_rfl))) rfl ⟨_, _, _, rfl, R_setRow HV0.out HRg.out (by decide), R_setRow HV18.out HRg.out (by decide), R_setRow HV19.out HRg.out (by decide), below_setRow HBg.out (by rw [HGB.out]; omega) _⟩
end Go.Proofs.Ytgiokbhedblkfaa.C
/- the document's Same of two configurations. -/
namespace Go.Proofs.Ytgiokbhedblkfaa.C
open Go.RowKit Go.Proofs.YtgiokbhedblkfaaW.PrintWords Go.Proofs.YtgiokbhedblkfaaW.PrintLast Go.Proofs.YtgiokbhedblkfaaW.PrintMore Go.Proofs.Ytgiokbhedblkfaa.H
set_option linter.unusedVariables false
set_option linter.unusedSimpArgs false
def eqP (a b : S37) : Bool := a.f0.toList == b.f0.toList && (a.f1 == b.f1 && (a.f2 == b.f2 && a.f3 == b.f3))
def eqB (a b : S39) : Bool := a.f0 == b.f0 && a.f1 == b.f1
def eqL (a b : S41) : Bool := a.f0 == b.f0 && (a.f1 == b.f1 && a.f2 == b.f2)
theorem eqP_iff (a b : S37) : eqP a b = true ↔ a = b := by
  obtain ⟨a0, a1, a2, a3⟩ := a
  obtain ⟨b0, b1, b2, b3⟩ := b
  unfold eqP
  simp only [str_eq, Bool.and_eq_true, decide_eq_true_eq, beq_iff_eq, S37.mk.injEq]
theorem eqB_iff (a b : S39) : eqB a b = true ↔ a = b := by
  obtain ⟨a0, a1⟩ := a
  obtain ⟨b0, b1⟩ := b
  unfold eqB
  simp only [Bool.and_eq_true, beq_iff_eq, S39.mk.injEq]
theorem eqL_iff (a b : S41) : eqL a b = true ↔ a = b := by
  obtain ⟨a0, a1, a2⟩ := a
  obtain ⟨b0, b1, b2⟩ := b
  unfold eqL
  simp only [Bool.and_eq_true, beq_iff_eq, S41.mk.injEq]
theorem neP (a b : S37) (w : World) : (binOp .neq 37 (.agg #[.string a.f0, .bool a.f1, .int .i64 a.f2, .int .i64 a.f3]) (.agg #[.string b.f0, .bool b.f1, .int .i64 b.f2, .int .i64 b.f3])).run Try.prog w = .ok (.bool (!eqP a b)) w := by
  have h : (Op.equalIn (9998 + 2) 37 (.agg #[.string a.f0, .bool a.f1, .int .i64 a.f2, .int .i64 a.f3]) (.agg #[.string b.f0, .bool b.f1, .int .i64 b.f2, .int .i64 b.f3])).run Try.prog w = .ok (eqP a b) w := by
    refine eqA_of Try.underlying37 (by kernel_rfl) ?_
    refine eqf_cons (by rfl) (by go_simp; rfl) (by go_simp; rfl) (by go_simp) ?_
    refine eqf_cons (by rfl) (by go_simp; rfl) (by go_simp; rfl) (by go_simp) ?_
    refine eqf_cons (by rfl) (by go_simp; rfl) (by go_simp; rfl) (by go_simp) ?_
    exact eqf_last (by rfl) (by go_simp; rfl) (by go_simp; rfl) (by go_simp)
  show (do pure (.bool (!(← Op.equalIn 10000 _ _ _))) : Sem Value).run _ _ = _
  rw [Sem.run_bind, show (10000 : Nat) = 9998 + 2 from rfl, h]
  rfl
theorem neB (a b : S39) (w : World) : (binOp .neq 39 (.agg #[.int .i64 a.f0, .int .i64 a.f1]) (.agg #[.int .i64 b.f0, .int .i64 b.f1])).run Try.prog w = .ok (.bool (!eqB a b)) w := by
  have h : (Op.equalIn (9998 + 2) 39 (.agg #[.int .i64 a.f0, .int .i64 a.f1]) (.agg #[.int .i64 b.f0, .int .i64 b.f1])).run Try.prog w = .ok (eqB a b) w := by
    refine eqA_of Try.underlying39 (by kernel_rfl) ?_
    refine eqf_cons (by rfl) (by go_simp; rfl) (by go_simp; rfl) (by go_simp) ?_
    exact eqf_last (by rfl) (by go_simp; rfl) (by go_simp; rfl) (by go_simp)
  show (do pure (.bool (!(← Op.equalIn 10000 _ _ _))) : Sem Value).run _ _ = _
  rw [Sem.run_bind, show (10000 : Nat) = 9998 + 2 from rfl, h]
  rfl
theorem neL (a b : S41) (w : World) : (binOp .neq 41 (.agg #[.int .u64 a.f0, .int .u64 a.f1, .int .i64 a.f2]) (.agg #[.int .u64 b.f0, .int .u64 b.f1, .int .i64 b.f2])).run Try.prog w = .ok (.bool (!eqL a b)) w := by
  have h : (Op.equalIn (9998 + 2) 41 (.agg #[.int .u64 a.f0, .int .u64 a.f1, .int .i64 a.f2]) (.agg #[.int .u64 b.f0, .int .u64 b.f1, .int .i64 b.f2])).run Try.prog w = .ok (eqL a b) w := by
    refine eqA_of Try.underlying41 (by kernel_rfl) ?_
    refine eqf_cons (by rfl) (by go_simp; rfl) (by go_simp; rfl) (by go_simp) ?_
    refine eqf_cons (by rfl) (by go_simp; rfl) (by go_simp; rfl) (by go_simp) ?_
    exact eqf_last (by rfl) (by go_simp; rfl) (by go_simp; rfl) (by go_simp)
  show (do pure (.bool (!(← Op.equalIn 10000 _ _ _))) : Sem Value).run _ _ = _
  rw [Sem.run_bind, show (10000 : Nat) = 9998 + 2 from rfl, h]
  rfl
theorem exec_load_box {P : Program} {w : World} {ev : Operand → Value} {o : Oper} (ty : TypeId) (x : Operand) (ho : o.op = .load ty x) (g t : Nat) (cs : Array Value) (fr : Nat × Nat) (d : TypeDesc) (hx : ev x = .pointer (some ⟨g, 0, none⟩)) (hg : w.heap[g]? = some (.cells cs t fr))
    (hu : P.underlying ty = some d) (hd : d.isRow = true) (hi : (P.info? ty).map (·.size) = some cs.size) : (execOp ev o).run P w = .ok (.value (.agg cs)) w := by
  unfold execOp
  simp only [ho, hx, Instr.loadAt, Instr.sureAddr, Sem.run_bind, Sem.run_pure, Result.andThen_ok, run_loadVar_box ty g t cs fr d hg hu hd hi]
theorem exec_bin {P : Program} {w : World} {ev : Operand → Value} {o : Oper} {xv yv v : Value} (op : BinOp) (T : TypeId) (x y : Operand) (T' : TypeId) (ho : o.op = .binOp op T x y T') (hx : ev x = xv) (hy : ev y = yv) (hgd : (eqGuard op T x y xv yv).run P w = .ok () w) (h : (binOp op T xv yv).run P w = .ok v w) : (execOp ev o).run P w = .ok (.value v) w := by
  unfold execOp
  simp only [ho, hx, hy, Sem.run_bind, Sem.run_pure, Result.andThen_ok, hgd, h]
/-- The numbers that are compared. -/
def numsR (x : S27) : List Int := [wrap64 x.f1, x.f2, truthI x.f3, x.f4, x.f5, x.f6, x.f7, x.f8, x.f9, wrap64 x.f10, wrap64 x.f11, wrap64 x.f12, wrap64 x.f13, wrap64 x.f14, wrap64 x.f15, truthI x.f16, x.f17]
def sameL {α : Type} (eq : α → α → Bool) (z : α) (a b : List α) : Bool := (List.range a.length).all (fun i => eq (a.getD i z) (b.getD i z))
theorem sameL_false {α : Type} {eq : α → α → Bool} {z : α} {a b : List α} {i : Nat} (hi : i < a.length) (h : eq (a.getD i z) (b.getD i z) = false) : sameL eq z a b = false := by
  unfold sameL
  rw [List.all_eq_false]
  exact ⟨i, List.mem_range.2 hi, by show ¬ (eq (a.getD i z) (b.getD i z) = true); rw [h]; simp⟩
theorem sameL_true {α : Type} {eq : α → α → Bool} {z : α} {a b : List α} (h : ∀ i, i < a.length → eq (a.getD i z) (b.getD i z) = true) : sameL eq z a b = true := by
  unfold sameL
  rw [List.all_eq_true]
  exact fun i hi => h i (List.mem_range.1 hi)
/-- The document's Same. -/
def sameC (x y : S27) : Bool := decide (x.f0.length = y.f0.length ∧ x.f18.length = y.f18.length ∧ x.f19.length = y.f19.length) && (sameL eqP z37 x.f0 y.f0 && (sameL eqB z39 x.f18 y.f18 && (sameL eqL z41 x.f19 y.f19 && sameL (fun a b : Int => a == b) 0 (numsR x) (numsR y))))
theorem nums_calls (x : S27) (A0 A18 A19 : Option Addr) (c0 c18 c19 : Nat) (w : World) (h0 : Kd.C k37 w A0 x.f0.length x.f0) (h18 : Kd.C k39 w A18 x.f18.length x.f18) (h19 : Kd.C k41 w A19 x.f19.length x.f19) (k0 : x.f0.length ≤ c0) (k18 : x.f18.length ≤ c18) (k19 : x.f19.length ≤ c19) :
    Calls Try.prog 48 #[.agg (cfgC x (.slice A0 x.f0.length c0) (.slice A18 x.f18.length c18) (.slice A19 x.f19.length c19))] w fun e w' => ∃ v0, e = .returned v0 ∧ Kd.R (Kd.int .i64) 2 w' w.heap.size (fun _ => True) v0 (numsR x) ∧ Below w.heap.size w w' := by
  refine cohortref11_numbers.calls A0 c0 x.f0 x.f1 x.f2 x.f3 x.f4 x.f5 x.f6 x.f7 x.f8 x.f9 x.f10 x.f11 x.f12 x.f13 x.f14 x.f15 x.f16 x.f17 A18 c18 x.f18 A19 c19 x.f19 (numsR x) w h0 k0 h18 k18 h19 k19 ?_
  unfold cohortref11_numbers.f cohortref11_truth.f numsR truthI
  cases x.f3 <;> cases x.f16 <;> rfl
end Go.Proofs.Ytgiokbhedblkfaa.C
/- the document's Same of two configurations: the walk. -/
namespace Go.Proofs.Ytgiokbhedblkfaa.C
open Go.RowKit Go.Proofs.YtgiokbhedblkfaaW.PrintWords Go.Proofs.YtgiokbhedblkfaaW.PrintLast Go.Proofs.YtgiokbhedblkfaaW.PrintMore Go.Proofs.Ytgiokbhedblkfaa.H
set_option linter.unusedVariables false
set_option linter.unusedSimpArgs false
set_option maxHeartbeats 16000000 in
set_option maxRecDepth 100000 in
theorem rsame_calls (x y : S27) (A0 A18 A19 B0 B18 B19 : Option Addr) (c0 c18 c19 d0 d18 d19 : Nat) (w : World) (h0 : Kd.C k37 w A0 x.f0.length x.f0) (h18 : Kd.C k39 w A18 x.f18.length x.f18) (h19 : Kd.C k41 w A19 x.f19.length x.f19)
    (k0 : Kd.C k37 w B0 y.f0.length y.f0) (k18 : Kd.C k39 w B18 y.f18.length y.f18) (k19 : Kd.C k41 w B19 y.f19.length y.f19) (hx : x.f0.length ≤ c0 ∧ x.f18.length ≤ c18 ∧ x.f19.length ≤ c19) (hy : y.f0.length ≤ d0 ∧ y.f18.length ≤ d18 ∧ y.f19.length ≤ d19) :
    Calls Try.prog 16 #[.agg (cfgC x (.slice A0 x.f0.length c0) (.slice A18 x.f18.length c18) (.slice A19 x.f19.length c19)), .agg (cfgC y (.slice B0 y.f0.length d0) (.slice B18 y.f18.length d18) (.slice B19 y.f19.length d19))] w fun e w' => e = .returned (.bool (sameC x y)) ∧ Below w.heap.size w w' := by
  obtain ⟨r, hr⟩ : ∃ r, sameC x y = r := ⟨_, rfl⟩
  rw [hr]
  have HR := Lib.hid hr
  have g1 := heap_alloc_new w (.cells (cfgC x (.slice A0 x.f0.length c0) (.slice A18 x.f18.length c18) (.slice A19 x.f19.length c19)) 27 (0, 0))
  have b1 := (Below.refl w.heap.size w).alloc (Nat.le_refl _) (.cells (cfgC x (.slice A0 x.f0.length c0) (.slice A18 x.f18.length c18) (.slice A19 x.f19.length c19)) 27 (0, 0))
  have b2 := b1.alloc b1.size (.cells (cfgC y (.slice B0 y.f0.length d0) (.slice B18 y.f18.length d18) (.slice B19 y.f19.length d19)) 27 (0, 0))
  have HBb := Lib.hid b2
  have HXb := Lib.hid ((Below.heap_alloc (w.alloc (.cells (cfgC x (.slice A0 x.f0.length c0) (.slice A18 x.f18.length c18) (.slice A19 x.f19.length c19)) 27 (0, 0))) (.cells (cfgC y (.slice B0 y.f0.length d0) (.slice B18 y.f18.length d18) (.slice B19 y.f19.length d19)) 27 (0, 0)) w.heap.size (blk_lt g1)).trans g1)
  have g2 := heap_alloc_new (w.alloc (.cells (cfgC x (.slice A0 x.f0.length c0) (.slice A18 x.f18.length c18) (.slice A19 x.f19.length c19)) 27 (0, 0))) (.cells (cfgC y (.slice B0 y.f0.length d0) (.slice B18 y.f18.length d18) (.slice B19 y.f19.length d19)) 27 (0, 0))
  rw [World.size_alloc] at g2
  have HYb := Lib.hid g2
  have H0 := Lib.hid (Kd.C_below h0 b2)
  have H18 := Lib.hid (Kd.C_below h18 b2)
  have H19 := Lib.hid (Kd.C_below h19 b2)
  have K0 := Lib.hid (Kd.C_below k0 b2)
  have K18 := Lib.hid (Kd.C_below k18 b2)
  have K19 := Lib.hid (Kd.C_below k19 b2)
  have HNX := Lib.hid (fun W (hW : Below w.heap.size w W) => nums_calls x A0 A18 A19 c0 c18 c19 W (Kd.C_below h0 hW) (Kd.C_below h18 hW) (Kd.C_below h19 hW) hx.1 hx.2.1 hx.2.2)
  have HNY := Lib.hid (fun W (hW : Below w.heap.size w W) => nums_calls y B0 B18 B19 d0 d18 d19 W (Kd.C_below k0 hW) (Kd.C_below k18 hW) (Kd.C_below k19 hW) hy.1 hy.2.1 hy.2.2)
  clear hr g1 g2 b1 b2 h0 h18 h19 k0 k18 k19 hx hy
  go_enter Try.func16, Try.ntmps16
  go_upto_region 1 with (fail)
  generalize ((w.alloc (.cells (cfgC x (.slice A0 x.f0.length c0) (.slice A18 x.f18.length c18) (.slice A19 x.f19.length c19)) 27 (0, 0))).alloc (.cells (cfgC y (.slice B0 y.f0.length d0) (.slice B18 y.f18.length d18) (.slice B19 y.f19.length d19)) 27 (0, 0))) = wb at HBb HXb HYb H0 H18 H19 K0 K18 K19 ⊢
  obtain ⟨gx, hgx⟩ : ∃ gx, w.heap.size = gx := ⟨_, rfl⟩
  rw [hgx] at HXb HYb ⊢
  have HGX := Lib.hid hgx
  clear hgx
  obtain ⟨n0, hn0⟩ : ∃ n, x.f0.length = n := ⟨_, rfl⟩
  obtain ⟨n18, hn18⟩ : ∃ n, x.f18.length = n := ⟨_, rfl⟩
  obtain ⟨n19, hn19⟩ : ∃ n, x.f19.length = n := ⟨_, rfl⟩
  obtain ⟨m0, hm0⟩ : ∃ n, y.f0.length = n := ⟨_, rfl⟩
  obtain ⟨m18, hm18⟩ : ∃ n, y.f18.length = n := ⟨_, rfl⟩
  obtain ⟨m19, hm19⟩ : ∃ n, y.f19.length = n := ⟨_, rfl⟩
  rw [hn0] at H0 HXb HNX ⊢
  rw [hn18] at H18 HXb HNX ⊢
  rw [hn19] at H19 HXb HNX ⊢
  rw [hm0] at K0 HYb HNY ⊢
  rw [hm18] at K18 HYb HNY ⊢
  rw [hm19] at K19 HYb HNY ⊢
  have HS := Lib.hid (show sameC x y = (decide (n0 = m0 ∧ n18 = m18 ∧ n19 = m19) && (sameL eqP z37 x.f0 y.f0 && (sameL eqB z39 x.f18 y.f18 && (sameL eqL z41 x.f19 y.f19 && sameL (fun a b : Int => a == b) 0 (numsR x) (numsR y))))) by rw [← hn0, ← hn18, ← hn19, ← hm0, ← hm18, ← hm19]; rfl)
  have HN := Lib.hid (And.intro hn0 (And.intro hn18 (And.intro hn19 (And.intro hm0 (And.intro hm18 hm19)))))
  clear hn0 hn18 hn19 hm0 hm18 hm19
  have hcx0 := blk_cellk HXb.out 0 (v := .slice A0 n0 c0) rfl
  have hcx18 := blk_cellk HXb.out 18 (v := .slice A18 n18 c18) rfl
  have hcx19 := blk_cellk HXb.out 19 (v := .slice A19 n19 c19) rfl
  have hcy0 := blk_cellk HYb.out 0 (v := .slice B0 m0 d0) rfl
  have hcy18 := blk_cellk HYb.out 18 (v := .slice B18 m18 d18) rfl
  have hcy19 := blk_cellk HYb.out 19 (v := .slice B19 m19 d19) rfl
  by_cases e0 : n0 = m0
  rotate_left 1
  · have hne : ((n0 : Int) != (m0 : Int)) = true := by rw [bne_iff_ne]; omega
    have hrf : r = false := by rw [← HR.out, HS.out, decide_eq_false (by omega)]; rfl
    subst hrf
    go_wp2_with (fail)
    go_ret
    exact ⟨rfl, HBb.out⟩
  subst e0
  by_cases e18 : n18 = m18
  rotate_left 1
  · have hne : ((n18 : Int) != (m18 : Int)) = true := by rw [bne_iff_ne]; omega
    have hrf : r = false := by rw [← HR.out, HS.out, decide_eq_false (by omega)]; rfl
    subst hrf
    go_wp2_with (fail)
    go_ret
    exact ⟨rfl, HBb.out⟩
  subst e18
  by_cases e19 : n19 = m19
  rotate_left 1
  · have hne : ((n19 : Int) != (m19 : Int)) = true := by rw [bne_iff_ne]; omega
    have hrf : r = false := by rw [← HR.out, HS.out, decide_eq_false (by omega)]; rfl
    subst hrf
    go_wp2_with (fail)
    go_ret
    exact ⟨rfl, HBb.out⟩
  subst e19
  have HRS := Lib.hid (show r = (sameL eqP z37 x.f0 y.f0 && (sameL eqB z39 x.f18 y.f18 && (sameL eqL z41 x.f19 y.f19 && sameL (fun a b : Int => a == b) 0 (numsR x) (numsR y)))) by rw [← HR.out, HS.out, decide_eq_true ⟨rfl, rfl, rfl⟩]; rfl)
  clear HS HR
  go_wp2_with (fail)
  clear hcx0 hcx18 hcx19 hcy0 hcy18 hcy19
  have HCXg := Lib.hid (fun W (hW : Below wb.heap.size wb W) => blk_cellk (v := .slice A0 n0 c0) (blk_call hW HXb.out) 0 rfl)
  have HCYg := Lib.hid (fun W (hW : Below wb.heap.size wb W) => blk_cellk (v := .slice B0 n0 d0) (blk_call hW HYb.out) 0 rfl)
  go_loopg [5] n0 (fun gg vj wr => ∃ (i : Nat), i ≤ n0 ∧ n0 - i ≤ gg ∧ vj = .int .i64 i ∧ Hid (∀ j, j < i → eqP (x.f0.getD j z37) (y.f0.getD j z37) = true) ∧ Hid (Below wb.heap.size wb wr))
  case atStart => exact ⟨0, Nat.zero_le _, by omega, rfl, Lib.hid (fun j hj => absurd hj (Nat.not_lt_zero _)), Lib.hid (Below.refl _ _)⟩
  case round =>
    (try clear HBl)
    obtain ⟨i, hi, hgi, rfl, HALL, HB⟩ := hrel
    have hcx := HCXg.out _ HB.out
    by_cases hlt : i < n0
    · have hltz : (i : Int) < (n0 : Int) := by omega
      have w1e : IntKind.i64.wrap ((i : Int) + 1) = (i : Int) + 1 := by rw [IntKind.wrap_i64]; have := Kd.C_max H0.out; omega
      obtain ⟨ax, ea, hcc⟩ := kPool_C H0.out i hlt
      obtain ⟨ay, eb, hcd⟩ := kPool_C K0.out i hlt
      subst ea
      subst eb
      obtain ⟨a, ha⟩ : ∃ a, x.f0.getD i z37 = a := ⟨_, rfl⟩
      obtain ⟨b, hb⟩ : ∃ b, y.f0.getD i z37 = b := ⟨_, rfl⟩
      rw [ha] at hcc
      rw [hb] at hcd
      have HCX := HCXg
      have HCY := HCYg
      have HEX := Lib.hid (fun W (hW : Below wb.heap.size wb W) => show ∀ j v, ([.string a.f0, .bool a.f1, .int .i64 a.f2, .int .i64 a.f3] : List Value)[j]? = some v → W.cell? ((ax.add (i * 4)).add j) = some v from fun j v hv => cap_keep (hcc j v hv) hW)
      have HEY := Lib.hid (fun W (hW : Below wb.heap.size wb W) => show ∀ j v, ([.string b.f0, .bool b.f1, .int .i64 b.f2, .int .i64 b.f3] : List Value)[j]? = some v → W.cell? ((ay.add (i * 4)).add j) = some v from fun j v hv => cap_keep (hcd j v hv) hW)
      have HAB := Lib.hid (And.intro ha hb)
      have hne := neP a b
      obtain ⟨q, hq⟩ : ∃ q, eqP a b = q := ⟨_, rfl⟩
      rw [hq] at hne
      have HNE := Lib.hid hne
      have HQ := Lib.hid hq
      have HBa := Lib.hid (below_step HB.out (below_drew (Below.refl _ _)))
      clear ha hb hcc hcd hne hq
      go_upto_region 6 with (fail)
      clear hcx
      · skip
        refine start_ (n := 11) (S := fun w' => w'.cell? ⟨gx, 0, none⟩ = some (.slice (some ax) n0 c0) ∧ w'.cell? ⟨gx + 1, 0, none⟩ = some (.slice (some ay) n0 d0) ∧ (∀ j v, ([.string a.f0, .bool a.f1, .int .i64 a.f2, .int .i64 a.f3] : List Value)[j]? = some v → w'.cell? ((ax.add (i * 4)).add j) = some v) ∧ (∀ j v, ([.string b.f0, .bool b.f1, .int .i64 b.f2, .int .i64 b.f3] : List Value)[j]? = some v → w'.cell? ((ay.add (i * 4)).add j) = some v)) (ds := []) #[false, false, false, false, false, false, false, false, false, false, false] (by kernel_rfl) rfl rfl ⟨HCX.out _ HBa.out, HCY.out _ HBa.out, HEX.out _ HBa.out, HEY.out _ HBa.out⟩ (fun hHeld => ?_)
        generalize wr.drew = Wa at HBa hHeld ⊢
        refine pure_ (i := 0) (N := some 43) (v := ?_) (a' := ?_) #[true, false, false, false, false, false, false, false, false, false, false] rfl rfl (by kernel_rfl) (fun _ _ _ h => h) (Or.inl ⟨by rfl, ?_⟩) ?_ ?_
        rotate_left
        · intro w'
          go_simp
          with_reducible rfl
        rotate_left
        · simp only [Act.put, List.setIfInBounds_toArray, List.set_cons_zero, List.set_cons_succ, i64_w, i32_w]
          rfl
        refine take_ (i := 1) (N := some 44) (v := ?_) (a' := ?_) #[true, true, false, false, false, false, false, false, false, false, false] rfl rfl (by kernel_rfl) (fun _ _ _ h => h) (Or.inl ⟨by rfl, ?_⟩) hHeld ?_ ?_
        rotate_left
        · rintro w' ⟨s0, s1, s2, s3⟩
          go_simp
          with_reducible rfl
        rotate_left
        · simp only [Act.put, List.setIfInBounds_toArray, List.set_cons_zero, List.set_cons_succ, i64_w, i32_w]
          rfl
        refine pure_ (i := 2) (N := some 45) (v := ?_) (a' := ?_) #[true, true, true, false, false, false, false, false, false, false, false] rfl rfl (by kernel_rfl) (fun _ _ _ h => h) (Or.inl ⟨by rfl, ?_⟩) ?_ ?_
        rotate_left
        · intro w'
          go_simp
          with_reducible rfl
        rotate_left
        · simp only [Act.put, List.setIfInBounds_toArray, List.set_cons_zero, List.set_cons_succ, i64_w, i32_w]
          rfl
        refine pure_ (i := 3) (N := some 46) (v := ?_) (a' := ?_) #[true, true, true, true, false, false, false, false, false, false, false] rfl rfl (by kernel_rfl) (fun _ _ _ h => h) (Or.inl ⟨by rfl, ?_⟩) ?_ ?_
        rotate_left
        · intro w'
          go_simp
          with_reducible rfl
        rotate_left
        · simp only [Act.put, List.setIfInBounds_toArray, List.set_cons_zero, List.set_cons_succ, i64_w, i32_w]
          rfl
        refine take_ (i := 4) (N := some 47) (v := ?_) (a' := ?_) #[true, true, true, true, true, false, false, false, false, false, false] rfl rfl (by kernel_rfl) (fun _ _ _ h => h) (Or.inl ⟨by rfl, ?_⟩) hHeld ?_ ?_
        rotate_left
        · rintro w' ⟨s0, s1, s2, s3⟩
          refine exec_load_any 37 (.tmp 46) ?_ (ax.add (i * 4)) ?_ [.string a.f0, .bool a.f1, .int .i64 a.f2, .int .i64 a.f3] _ s2 Try.underlying37 rfl (by kernel_rfl)
          · rfl
          · rfl
        rotate_left
        · simp only [Act.put, List.setIfInBounds_toArray, List.set_cons_zero, List.set_cons_succ, i64_w, i32_w]
          rfl
        refine pure_ (i := 5) (N := some 48) (v := ?_) (a' := ?_) #[true, true, true, true, true, true, false, false, false, false, false] rfl rfl (by kernel_rfl) (fun _ _ _ h => h) (Or.inl ⟨by rfl, ?_⟩) ?_ ?_
        rotate_left
        · intro w'
          go_simp
          with_reducible rfl
        rotate_left
        · simp only [Act.put, List.setIfInBounds_toArray, List.set_cons_zero, List.set_cons_succ, i64_w, i32_w]
          rfl
        refine take_ (i := 6) (N := some 49) (v := ?_) (a' := ?_) #[true, true, true, true, true, true, true, false, false, false, false] rfl rfl (by kernel_rfl) (fun _ _ _ h => h) (Or.inl ⟨by rfl, ?_⟩) hHeld ?_ ?_
        rotate_left
        · rintro w' ⟨s0, s1, s2, s3⟩
          go_simp
          with_reducible rfl
        rotate_left
        · simp only [Act.put, List.setIfInBounds_toArray, List.set_cons_zero, List.set_cons_succ, i64_w, i32_w]
          rfl
        refine pure_ (i := 7) (N := some 50) (v := ?_) (a' := ?_) #[true, true, true, true, true, true, true, true, false, false, false] rfl rfl (by kernel_rfl) (fun _ _ _ h => h) (Or.inl ⟨by rfl, ?_⟩) ?_ ?_
        rotate_left
        · intro w'
          go_simp
          with_reducible rfl
        rotate_left
        · simp only [Act.put, List.setIfInBounds_toArray, List.set_cons_zero, List.set_cons_succ, i64_w, i32_w]
          rfl
        refine pure_ (i := 8) (N := some 51) (v := ?_) (a' := ?_) #[true, true, true, true, true, true, true, true, true, false, false] rfl rfl (by kernel_rfl) (fun _ _ _ h => h) (Or.inl ⟨by rfl, ?_⟩) ?_ ?_
        rotate_left
        · intro w'
          go_simp
          with_reducible rfl
        rotate_left
        · simp only [Act.put, List.setIfInBounds_toArray, List.set_cons_zero, List.set_cons_succ, i64_w, i32_w]
          rfl
        refine take_ (i := 9) (N := some 52) (v := ?_) (a' := ?_) #[true, true, true, true, true, true, true, true, true, true, false] rfl rfl (by kernel_rfl) (fun _ _ _ h => h) (Or.inl ⟨by rfl, ?_⟩) hHeld ?_ ?_
        rotate_left
        · rintro w' ⟨s0, s1, s2, s3⟩
          refine exec_load_any 37 (.tmp 51) ?_ (ay.add (i * 4)) ?_ [.string b.f0, .bool b.f1, .int .i64 b.f2, .int .i64 b.f3] _ s3 Try.underlying37 rfl (by kernel_rfl)
          · rfl
          · rfl
        rotate_left
        · simp only [Act.put, List.setIfInBounds_toArray, List.set_cons_zero, List.set_cons_succ, i64_w, i32_w]
          rfl
        refine pure_ (i := 10) (N := some 53) (v := ?_) (a' := ?_) #[true, true, true, true, true, true, true, true, true, true, true] rfl rfl (by kernel_rfl) (fun _ _ _ h => h) (Or.inl ⟨by rfl, ?_⟩) ?_ ?_
        rotate_left
        · intro w'
          refine exec_bin (v := .bool (!q)) .neq 37 (.tmp 47) (.tmp 52) 37 ?_ ?_ ?_ ?_ (HNE.out w')
          · rfl
          · rfl
          · rfl
          · first | kernel_rfl | go_simp
        rotate_left
        · simp only [Act.put, List.setIfInBounds_toArray, List.set_cons_zero, List.set_cons_succ, i64_w, i32_w]
          rfl
        refine done_ (by kernel_rfl) ?_
        cases q with
        | false =>
          have hrf : r = false := by
            rw [HRS.out, sameL_false (z := z37) (a := x.f0) (b := y.f0) (i := i) (by rw [HN.out.1]; exact hlt) (by rw [HAB.out.1, HAB.out.2]; exact HQ.out)]
            simp
          subst hrf
          go_wp2_with (fail)
          go_ret
          exact ⟨rfl, below_step HBb.out HBa.out⟩
        | true =>
          go_wp2_with (fail)
          go_roundg (n0 - (i + 1))
          case measure => omega
          case rel =>
            refine ⟨i + 1, by omega, by omega, by go_num, Lib.hid (fun j hj => ?_), HBa⟩
            rcases Nat.lt_or_eq_of_le (Nat.le_of_lt_succ hj) with h | h
            · exact HALL.out j h
            · subst h; rw [HAB.out.1, HAB.out.2]; exact HQ.out
    · have hin : n0 = i := by omega
      subst hin
      have HTP := Lib.hid (sameL_true (eq := eqP) (z := z37) (a := x.f0) (b := y.f0) (fun j hj => HALL.out j (by rw [HN.out.1] at hj; exact hj)))
      have HBl := HB
      clear HALL
      obtain ⟨wl, hwl⟩ : ∃ wl, wl = wr := ⟨_, rfl⟩
      subst hwl
      clear hlt hi hgi
      have hcx := blk_cellk (v := .slice A18 n18 c18) (blk_call HB.out HXb.out) 18 rfl
      go_wp2_with (fail)
      clear hcx
      have HCXg := Lib.hid (fun W (hW : Below wb.heap.size wb W) => blk_cellk (v := .slice A18 n18 c18) (blk_call hW HXb.out) 18 rfl)
      have HCYg := Lib.hid (fun W (hW : Below wb.heap.size wb W) => blk_cellk (v := .slice B18 n18 d18) (blk_call hW HYb.out) 18 rfl)
      go_loopg [6] n18 (fun gg vj wr => ∃ (i : Nat), i ≤ n18 ∧ n18 - i ≤ gg ∧ vj = .int .i64 i ∧ Hid (∀ j, j < i → eqB (x.f18.getD j z39) (y.f18.getD j z39) = true) ∧ Hid (Below wb.heap.size wb wr))
      case atStart => exact ⟨0, Nat.zero_le _, by omega, rfl, Lib.hid (fun j hj => absurd hj (Nat.not_lt_zero _)), HBl⟩
      case round =>
        (try clear HBl)
        obtain ⟨i, hi, hgi, rfl, HALL, HB⟩ := hrel
        have hcx := HCXg.out _ HB.out
        by_cases hlt : i < n18
        · have hltz : (i : Int) < (n18 : Int) := by omega
          have w1e : IntKind.i64.wrap ((i : Int) + 1) = (i : Int) + 1 := by rw [IntKind.wrap_i64]; have := Kd.C_max H18.out; omega
          obtain ⟨ax, ea, hcc⟩ := kBand_C H18.out i hlt
          obtain ⟨ay, eb, hcd⟩ := kBand_C K18.out i hlt
          subst ea
          subst eb
          obtain ⟨a, ha⟩ : ∃ a, x.f18.getD i z39 = a := ⟨_, rfl⟩
          obtain ⟨b, hb⟩ : ∃ b, y.f18.getD i z39 = b := ⟨_, rfl⟩
          rw [ha] at hcc
          rw [hb] at hcd
          have HCX := HCXg
          have HCY := HCYg
          have HEX := Lib.hid (fun W (hW : Below wb.heap.size wb W) => show ∀ j v, ([.int .i64 a.f0, .int .i64 a.f1] : List Value)[j]? = some v → W.cell? ((ax.add (i * 2)).add j) = some v from fun j v hv => cap_keep (hcc j v hv) hW)
          have HEY := Lib.hid (fun W (hW : Below wb.heap.size wb W) => show ∀ j v, ([.int .i64 b.f0, .int .i64 b.f1] : List Value)[j]? = some v → W.cell? ((ay.add (i * 2)).add j) = some v from fun j v hv => cap_keep (hcd j v hv) hW)
          have HAB := Lib.hid (And.intro ha hb)
          have hne := neB a b
          obtain ⟨q, hq⟩ : ∃ q, eqB a b = q := ⟨_, rfl⟩
          rw [hq] at hne
          have HNE := Lib.hid hne
          have HQ := Lib.hid hq
          have HBa := Lib.hid (below_step HB.out (below_drew (Below.refl _ _)))
          clear ha hb hcc hcd hne hq
          go_upto_region 11 with (fail)
          clear hcx
          · skip
            refine start_ (n := 11) (S := fun w' => w'.cell? ⟨gx, 18, none⟩ = some (.slice (some ax) n18 c18) ∧ w'.cell? ⟨gx + 1, 18, none⟩ = some (.slice (some ay) n18 d18) ∧ (∀ j v, ([.int .i64 a.f0, .int .i64 a.f1] : List Value)[j]? = some v → w'.cell? ((ax.add (i * 2)).add j) = some v) ∧ (∀ j v, ([.int .i64 b.f0, .int .i64 b.f1] : List Value)[j]? = some v → w'.cell? ((ay.add (i * 2)).add j) = some v)) (ds := []) #[false, false, false, false, false, false, false, false, false, false, false] (by kernel_rfl) rfl rfl ⟨HCX.out _ HBa.out, HCY.out _ HBa.out, HEX.out _ HBa.out, HEY.out _ HBa.out⟩ (fun hHeld => ?_)
            generalize wr.drew = Wa at HBa hHeld ⊢
            refine pure_ (i := 0) (N := some 61) (v := ?_) (a' := ?_) #[true, false, false, false, false, false, false, false, false, false, false] rfl rfl (by kernel_rfl) (fun _ _ _ h => h) (Or.inl ⟨by rfl, ?_⟩) ?_ ?_
            rotate_left
            · intro w'
              go_simp
              with_reducible rfl
            rotate_left
            · simp only [Act.put, List.setIfInBounds_toArray, List.set_cons_zero, List.set_cons_succ, i64_w, i32_w]
              rfl
            refine take_ (i := 1) (N := some 62) (v := ?_) (a' := ?_) #[true, true, false, false, false, false, false, false, false, false, false] rfl rfl (by kernel_rfl) (fun _ _ _ h => h) (Or.inl ⟨by rfl, ?_⟩) hHeld ?_ ?_
            rotate_left
            · rintro w' ⟨s0, s1, s2, s3⟩
              go_simp
              with_reducible rfl
            rotate_left
            · simp only [Act.put, List.setIfInBounds_toArray, List.set_cons_zero, List.set_cons_succ, i64_w, i32_w]
              rfl
            refine pure_ (i := 2) (N := some 63) (v := ?_) (a' := ?_) #[true, true, true, false, false, false, false, false, false, false, false] rfl rfl (by kernel_rfl) (fun _ _ _ h => h) (Or.inl ⟨by rfl, ?_⟩) ?_ ?_
            rotate_left
            · intro w'
              go_simp
              with_reducible rfl
            rotate_left
            · simp only [Act.put, List.setIfInBounds_toArray, List.set_cons_zero, List.set_cons_succ, i64_w, i32_w]
              rfl
            refine pure_ (i := 3) (N := some 64) (v := ?_) (a' := ?_) #[true, true, true, true, false, false, false, false, false, false, false] rfl rfl (by kernel_rfl) (fun _ _ _ h => h) (Or.inl ⟨by rfl, ?_⟩) ?_ ?_
            rotate_left
            · intro w'
              go_simp
              with_reducible rfl
            rotate_left
            · simp only [Act.put, List.setIfInBounds_toArray, List.set_cons_zero, List.set_cons_succ, i64_w, i32_w]
              rfl
            refine take_ (i := 4) (N := some 65) (v := ?_) (a' := ?_) #[true, true, true, true, true, false, false, false, false, false, false] rfl rfl (by kernel_rfl) (fun _ _ _ h => h) (Or.inl ⟨by rfl, ?_⟩) hHeld ?_ ?_
            rotate_left
            · rintro w' ⟨s0, s1, s2, s3⟩
              refine exec_load_any 39 (.tmp 64) ?_ (ax.add (i * 2)) ?_ [.int .i64 a.f0, .int .i64 a.f1] _ s2 Try.underlying39 rfl (by kernel_rfl)
              · rfl
              · rfl
            rotate_left
            · simp only [Act.put, List.setIfInBounds_toArray, List.set_cons_zero, List.set_cons_succ, i64_w, i32_w]
              rfl
            refine pure_ (i := 5) (N := some 66) (v := ?_) (a' := ?_) #[true, true, true, true, true, true, false, false, false, false, false] rfl rfl (by kernel_rfl) (fun _ _ _ h => h) (Or.inl ⟨by rfl, ?_⟩) ?_ ?_
            rotate_left
            · intro w'
              go_simp
              with_reducible rfl
            rotate_left
            · simp only [Act.put, List.setIfInBounds_toArray, List.set_cons_zero, List.set_cons_succ, i64_w, i32_w]
              rfl
            refine take_ (i := 6) (N := some 67) (v := ?_) (a' := ?_) #[true, true, true, true, true, true, true, false, false, false, false] rfl rfl (by kernel_rfl) (fun _ _ _ h => h) (Or.inl ⟨by rfl, ?_⟩) hHeld ?_ ?_
            rotate_left
            · rintro w' ⟨s0, s1, s2, s3⟩
              go_simp
              with_reducible rfl
            rotate_left
            · simp only [Act.put, List.setIfInBounds_toArray, List.set_cons_zero, List.set_cons_succ, i64_w, i32_w]
              rfl
            refine pure_ (i := 7) (N := some 68) (v := ?_) (a' := ?_) #[true, true, true, true, true, true, true, true, false, false, false] rfl rfl (by kernel_rfl) (fun _ _ _ h => h) (Or.inl ⟨by rfl, ?_⟩) ?_ ?_
            rotate_left
            · intro w'
              go_simp
              with_reducible rfl
            rotate_left
            · simp only [Act.put, List.setIfInBounds_toArray, List.set_cons_zero, List.set_cons_succ, i64_w, i32_w]
              rfl
            refine pure_ (i := 8) (N := some 69) (v := ?_) (a' := ?_) #[true, true, true, true, true, true, true, true, true, false, false] rfl rfl (by kernel_rfl) (fun _ _ _ h => h) (Or.inl ⟨by rfl, ?_⟩) ?_ ?_
            rotate_left
            · intro w'
              go_simp
              with_reducible rfl
            rotate_left
            · simp only [Act.put, List.setIfInBounds_toArray, List.set_cons_zero, List.set_cons_succ, i64_w, i32_w]
              rfl
            refine take_ (i := 9) (N := some 70) (v := ?_) (a' := ?_) #[true, true, true, true, true, true, true, true, true, true, false] rfl rfl (by kernel_rfl) (fun _ _ _ h => h) (Or.inl ⟨by rfl, ?_⟩) hHeld ?_ ?_
            rotate_left
            · rintro w' ⟨s0, s1, s2, s3⟩
              refine exec_load_any 39 (.tmp 69) ?_ (ay.add (i * 2)) ?_ [.int .i64 b.f0, .int .i64 b.f1] _ s3 Try.underlying39 rfl (by kernel_rfl)
              · rfl
              · rfl
            rotate_left
            · simp only [Act.put, List.setIfInBounds_toArray, List.set_cons_zero, List.set_cons_succ, i64_w, i32_w]
              rfl
            refine pure_ (i := 10) (N := some 71) (v := ?_) (a' := ?_) #[true, true, true, true, true, true, true, true, true, true, true] rfl rfl (by kernel_rfl) (fun _ _ _ h => h) (Or.inl ⟨by rfl, ?_⟩) ?_ ?_
            rotate_left
            · intro w'
              refine exec_bin (v := .bool (!q)) .neq 39 (.tmp 65) (.tmp 70) 39 ?_ ?_ ?_ ?_ (HNE.out w')
              · rfl
              · rfl
              · rfl
              · first | kernel_rfl | go_simp
            rotate_left
            · simp only [Act.put, List.setIfInBounds_toArray, List.set_cons_zero, List.set_cons_succ, i64_w, i32_w]
              rfl
            refine done_ (by kernel_rfl) ?_
            cases q with
            | false =>
              have hrf : r = false := by
                rw [HRS.out, HTP.out, Bool.true_and, sameL_false (z := z39) (a := x.f18) (b := y.f18) (i := i) (by rw [HN.out.2.1]; exact hlt) (by rw [HAB.out.1, HAB.out.2]; exact HQ.out)]
                simp
              subst hrf
              go_wp2_with (fail)
              go_ret
              exact ⟨rfl, below_step HBb.out HBa.out⟩
            | true =>
              go_wp2_with (fail)
              go_roundg (n18 - (i + 1))
              case measure => omega
              case rel =>
                refine ⟨i + 1, by omega, by omega, by go_num, Lib.hid (fun j hj => ?_), HBa⟩
                rcases Nat.lt_or_eq_of_le (Nat.le_of_lt_succ hj) with h | h
                · exact HALL.out j h
                · subst h; rw [HAB.out.1, HAB.out.2]; exact HQ.out
        · have hin : n18 = i := by omega
          subst hin
          have HTB := Lib.hid (sameL_true (eq := eqB) (z := z39) (a := x.f18) (b := y.f18) (fun j hj => HALL.out j (by rw [HN.out.2.1] at hj; exact hj)))
          have HBl := HB
          clear HALL
          obtain ⟨wl, hwl⟩ : ∃ wl, wl = wr := ⟨_, rfl⟩
          subst hwl
          clear hlt hi hgi
          have hcx := blk_cellk (v := .slice A19 n19 c19) (blk_call HB.out HXb.out) 19 rfl
          go_wp2_with (fail)
          clear hcx
          have HCXg := Lib.hid (fun W (hW : Below wb.heap.size wb W) => blk_cellk (v := .slice A19 n19 c19) (blk_call hW HXb.out) 19 rfl)
          have HCYg := Lib.hid (fun W (hW : Below wb.heap.size wb W) => blk_cellk (v := .slice B19 n19 d19) (blk_call hW HYb.out) 19 rfl)
          go_loopg [7] n19 (fun gg vj wr => ∃ (i : Nat), i ≤ n19 ∧ n19 - i ≤ gg ∧ vj = .int .i64 i ∧ Hid (∀ j, j < i → eqL (x.f19.getD j z41) (y.f19.getD j z41) = true) ∧ Hid (Below wb.heap.size wb wr))
          case atStart => exact ⟨0, Nat.zero_le _, by omega, rfl, Lib.hid (fun j hj => absurd hj (Nat.not_lt_zero _)), HBl⟩
          case round =>
            (try clear HBl)
            obtain ⟨i, hi, hgi, rfl, HALL, HB⟩ := hrel
            have hcx := HCXg.out _ HB.out
            by_cases hlt : i < n19
            · have hltz : (i : Int) < (n19 : Int) := by omega
              have w1e : IntKind.i64.wrap ((i : Int) + 1) = (i : Int) + 1 := by rw [IntKind.wrap_i64]; have := Kd.C_max H19.out; omega
              obtain ⟨ax, ea, hcc⟩ := kPlan_C H19.out i hlt
              obtain ⟨ay, eb, hcd⟩ := kPlan_C K19.out i hlt
              subst ea
              subst eb
              obtain ⟨a, ha⟩ : ∃ a, x.f19.getD i z41 = a := ⟨_, rfl⟩
              obtain ⟨b, hb⟩ : ∃ b, y.f19.getD i z41 = b := ⟨_, rfl⟩
              rw [ha] at hcc
              rw [hb] at hcd
              have HCX := HCXg
              have HCY := HCYg
              have HEX := Lib.hid (fun W (hW : Below wb.heap.size wb W) => show ∀ j v, ([.int .u64 a.f0, .int .u64 a.f1, .int .i64 a.f2] : List Value)[j]? = some v → W.cell? ((ax.add (i * 3)).add j) = some v from fun j v hv => cap_keep (hcc j v hv) hW)
              have HEY := Lib.hid (fun W (hW : Below wb.heap.size wb W) => show ∀ j v, ([.int .u64 b.f0, .int .u64 b.f1, .int .i64 b.f2] : List Value)[j]? = some v → W.cell? ((ay.add (i * 3)).add j) = some v from fun j v hv => cap_keep (hcd j v hv) hW)
              have HAB := Lib.hid (And.intro ha hb)
              have hne := neL a b
              obtain ⟨q, hq⟩ : ∃ q, eqL a b = q := ⟨_, rfl⟩
              rw [hq] at hne
              have HNE := Lib.hid hne
              have HQ := Lib.hid hq
              have HBa := Lib.hid (below_step HB.out (below_drew (Below.refl _ _)))
              clear ha hb hcc hcd hne hq
              go_upto_region 16 with (fail)
              clear hcx
              · skip
                refine start_ (n := 11) (S := fun w' => w'.cell? ⟨gx, 19, none⟩ = some (.slice (some ax) n19 c19) ∧ w'.cell? ⟨gx + 1, 19, none⟩ = some (.slice (some ay) n19 d19) ∧ (∀ j v, ([.int .u64 a.f0, .int .u64 a.f1, .int .i64 a.f2] : List Value)[j]? = some v → w'.cell? ((ax.add (i * 3)).add j) = some v) ∧ (∀ j v, ([.int .u64 b.f0, .int .u64 b.f1, .int .i64 b.f2] : List Value)[j]? = some v → w'.cell? ((ay.add (i * 3)).add j) = some v)) (ds := []) #[false, false, false, false, false, false, false, false, false, false, false] (by kernel_rfl) rfl rfl ⟨HCX.out _ HBa.out, HCY.out _ HBa.out, HEX.out _ HBa.out, HEY.out _ HBa.out⟩ (fun hHeld => ?_)
                generalize wr.drew = Wa at HBa hHeld ⊢
                refine pure_ (i := 0) (N := some 79) (v := ?_) (a' := ?_) #[true, false, false, false, false, false, false, false, false, false, false] rfl rfl (by kernel_rfl) (fun _ _ _ h => h) (Or.inl ⟨by rfl, ?_⟩) ?_ ?_
                rotate_left
                · intro w'
                  go_simp
                  with_reducible rfl
                rotate_left
                · simp only [Act.put, List.setIfInBounds_toArray, List.set_cons_zero, List.set_cons_succ, i64_w, i32_w]
                  rfl
                refine take_ (i := 1) (N := some 80) (v := ?_) (a' := ?_) #[true, true, false, false, false, false, false, false, false, false, false] rfl rfl (by kernel_rfl) (fun _ _ _ h => h) (Or.inl ⟨by rfl, ?_⟩) hHeld ?_ ?_
                rotate_left
                · rintro w' ⟨s0, s1, s2, s3⟩
                  go_simp
                  with_reducible rfl
                rotate_left
                · simp only [Act.put, List.setIfInBounds_toArray, List.set_cons_zero, List.set_cons_succ, i64_w, i32_w]
                  rfl
                refine pure_ (i := 2) (N := some 81) (v := ?_) (a' := ?_) #[true, true, true, false, false, false, false, false, false, false, false] rfl rfl (by kernel_rfl) (fun _ _ _ h => h) (Or.inl ⟨by rfl, ?_⟩) ?_ ?_
                rotate_left
                · intro w'
                  go_simp
                  with_reducible rfl
                rotate_left
                · simp only [Act.put, List.setIfInBounds_toArray, List.set_cons_zero, List.set_cons_succ, i64_w, i32_w]
                  rfl
                refine pure_ (i := 3) (N := some 82) (v := ?_) (a' := ?_) #[true, true, true, true, false, false, false, false, false, false, false] rfl rfl (by kernel_rfl) (fun _ _ _ h => h) (Or.inl ⟨by rfl, ?_⟩) ?_ ?_
                rotate_left
                · intro w'
                  go_simp
                  with_reducible rfl
                rotate_left
                · simp only [Act.put, List.setIfInBounds_toArray, List.set_cons_zero, List.set_cons_succ, i64_w, i32_w]
                  rfl
                refine take_ (i := 4) (N := some 83) (v := ?_) (a' := ?_) #[true, true, true, true, true, false, false, false, false, false, false] rfl rfl (by kernel_rfl) (fun _ _ _ h => h) (Or.inl ⟨by rfl, ?_⟩) hHeld ?_ ?_
                rotate_left
                · rintro w' ⟨s0, s1, s2, s3⟩
                  refine exec_load_any 41 (.tmp 82) ?_ (ax.add (i * 3)) ?_ [.int .u64 a.f0, .int .u64 a.f1, .int .i64 a.f2] _ s2 Try.underlying41 rfl (by kernel_rfl)
                  · rfl
                  · rfl
                rotate_left
                · simp only [Act.put, List.setIfInBounds_toArray, List.set_cons_zero, List.set_cons_succ, i64_w, i32_w]
                  rfl
                refine pure_ (i := 5) (N := some 84) (v := ?_) (a' := ?_) #[true, true, true, true, true, true, false, false, false, false, false] rfl rfl (by kernel_rfl) (fun _ _ _ h => h) (Or.inl ⟨by rfl, ?_⟩) ?_ ?_
                rotate_left
                · intro w'
                  go_simp
                  with_reducible rfl
                rotate_left
                · simp only [Act.put, List.setIfInBounds_toArray, List.set_cons_zero, List.set_cons_succ, i64_w, i32_w]
                  rfl
                refine take_ (i := 6) (N := some 85) (v := ?_) (a' := ?_) #[true, true, true, true, true, true, true, false, false, false, false] rfl rfl (by kernel_rfl) (fun _ _ _ h => h) (Or.inl ⟨by rfl, ?_⟩) hHeld ?_ ?_
                rotate_left
                · rintro w' ⟨s0, s1, s2, s3⟩
                  go_simp
                  with_reducible rfl
                rotate_left
                · simp only [Act.put, List.setIfInBounds_toArray, List.set_cons_zero, List.set_cons_succ, i64_w, i32_w]
                  rfl
                refine pure_ (i := 7) (N := some 86) (v := ?_) (a' := ?_) #[true, true, true, true, true, true, true, true, false, false, false] rfl rfl (by kernel_rfl) (fun _ _ _ h => h) (Or.inl ⟨by rfl, ?_⟩) ?_ ?_
                rotate_left
                · intro w'
                  go_simp
                  with_reducible rfl
                rotate_left
                · simp only [Act.put, List.setIfInBounds_toArray, List.set_cons_zero, List.set_cons_succ, i64_w, i32_w]
                  rfl
                refine pure_ (i := 8) (N := some 87) (v := ?_) (a' := ?_) #[true, true, true, true, true, true, true, true, true, false, false] rfl rfl (by kernel_rfl) (fun _ _ _ h => h) (Or.inl ⟨by rfl, ?_⟩) ?_ ?_
                rotate_left
                · intro w'
                  go_simp
                  with_reducible rfl
                rotate_left
                · simp only [Act.put, List.setIfInBounds_toArray, List.set_cons_zero, List.set_cons_succ, i64_w, i32_w]
                  rfl
                refine take_ (i := 9) (N := some 88) (v := ?_) (a' := ?_) #[true, true, true, true, true, true, true, true, true, true, false] rfl rfl (by kernel_rfl) (fun _ _ _ h => h) (Or.inl ⟨by rfl, ?_⟩) hHeld ?_ ?_
                rotate_left
                · rintro w' ⟨s0, s1, s2, s3⟩
                  refine exec_load_any 41 (.tmp 87) ?_ (ay.add (i * 3)) ?_ [.int .u64 b.f0, .int .u64 b.f1, .int .i64 b.f2] _ s3 Try.underlying41 rfl (by kernel_rfl)
                  · rfl
                  · rfl
                rotate_left
                · simp only [Act.put, List.setIfInBounds_toArray, List.set_cons_zero, List.set_cons_succ, i64_w, i32_w]
                  rfl
                refine pure_ (i := 10) (N := some 89) (v := ?_) (a' := ?_) #[true, true, true, true, true, true, true, true, true, true, true] rfl rfl (by kernel_rfl) (fun _ _ _ h => h) (Or.inl ⟨by rfl, ?_⟩) ?_ ?_
                rotate_left
                · intro w'
                  refine exec_bin (v := .bool (!q)) .neq 41 (.tmp 83) (.tmp 88) 41 ?_ ?_ ?_ ?_ (HNE.out w')
                  · rfl
                  · rfl
                  · rfl
                  · first | kernel_rfl | go_simp
                rotate_left
                · simp only [Act.put, List.setIfInBounds_toArray, List.set_cons_zero, List.set_cons_succ, i64_w, i32_w]
                  rfl
                refine done_ (by kernel_rfl) ?_
                cases q with
                | false =>
                  have hrf : r = false := by
                    rw [HRS.out, HTP.out, HTB.out, Bool.true_and, Bool.true_and, sameL_false (z := z41) (a := x.f19) (b := y.f19) (i := i) (by rw [HN.out.2.2.1]; exact hlt) (by rw [HAB.out.1, HAB.out.2]; exact HQ.out)]
                    simp
                  subst hrf
                  go_wp2_with (fail)
                  go_ret
                  exact ⟨rfl, below_step HBb.out HBa.out⟩
                | true =>
                  go_wp2_with (fail)
                  go_roundg (n19 - (i + 1))
                  case measure => omega
                  case rel =>
                    refine ⟨i + 1, by omega, by omega, by go_num, Lib.hid (fun j hj => ?_), HBa⟩
                    rcases Nat.lt_or_eq_of_le (Nat.le_of_lt_succ hj) with h | h
                    · exact HALL.out j h
                    · subst h; rw [HAB.out.1, HAB.out.2]; exact HQ.out
            · have hin : n19 = i := by omega
              subst hin
              have HTL := Lib.hid (sameL_true (eq := eqL) (z := z41) (a := x.f19) (b := y.f19) (fun j hj => HALL.out j (by rw [HN.out.2.2.1] at hj; exact hj)))
              have HBl := HB
              clear HALL
              obtain ⟨wl, hwl⟩ : ∃ wl, wl = wr := ⟨_, rfl⟩
              subst hwl
              have HBa := Lib.hid (below_step HB.out (below_drew (Below.refl _ _)))
              go_upto_region 18 with (fail)
              clear hcx
              · skip
                refine start_ (n := 6) (S := fun w' => w'.heap[gx]? = some (.cells (cfgC x (.slice A0 n0 c0) (.slice A18 n18 c18) (.slice A19 n19 c19)) 27 (0, 0)) ∧ w'.heap[gx + 1]? = some (.cells (cfgC y (.slice B0 n0 d0) (.slice B18 n18 d18) (.slice B19 n19 d19)) 27 (0, 0))) (ds := []) #[false, false, false, false, false, false] (by kernel_rfl) rfl rfl ⟨blk_call HBa.out HXb.out, blk_call HBa.out HYb.out⟩ (fun hHeld => ?_)
                generalize wl.drew = Wa at HBa hHeld ⊢
                refine take_ (i := 0) (N := some 90) (v := ?_) (a' := ?_) #[true, false, false, false, false, false] rfl rfl (by kernel_rfl) (fun _ _ _ h => h) (Or.inl ⟨by rfl, ?_⟩) hHeld ?_ ?_
                rotate_left
                · rintro w' ⟨s0, s1⟩
                  refine exec_load_box 27 (.tmp 2) ?_ gx 27 (cfgC x (.slice A0 n0 c0) (.slice A18 n18 c18) (.slice A19 n19 c19)) (0, 0) _ ?_ s0 Try.underlying27 rfl (by kernel_rfl)
                  · rfl
                  · rfl
                rotate_left
                · simp only [Act.put, List.setIfInBounds_toArray, List.set_cons_zero, List.set_cons_succ, i64_w, i32_w]
                  rfl
                refine take_ (i := 2) (N := some 92) (v := ?_) (a' := ?_) #[true, false, true, false, false, false] rfl rfl (by kernel_rfl) (fun _ _ _ h => h) (Or.inl ⟨by rfl, ?_⟩) hHeld ?_ ?_
                rotate_left
                · rintro w' ⟨s0, s1⟩
                  refine exec_load_box 27 (.tmp 3) ?_ (gx + 1) 27 (cfgC y (.slice B0 n0 d0) (.slice B18 n18 d18) (.slice B19 n19 d19)) (0, 0) _ ?_ s1 Try.underlying27 rfl (by kernel_rfl)
                  · rfl
                  · rfl
                rotate_left
                · simp only [Act.put, List.setIfInBounds_toArray, List.set_cons_zero, List.set_cons_succ, i64_w, i32_w]
                  rfl
                refine one_ (i := 1) (N := some 91) #[true, true, true, false, false, false] rfl rfl (by kernel_rfl) (by decide) (fun K hK => ?_)
                refine goes_ Try.func48 (by kernel_rfl) rfl #[.agg (cfgC x (.slice A0 n0 c0) (.slice A18 n18 c18) (.slice A19 n19 c19))] (by rfl) rfl rfl (by (try simp only [List.map_toArray, List.map_cons, List.map_nil]); first | done | rfl) ?_
                refine (HNX.out _ (below_step HBb.out HBa.out)).mono ?_
                rintro e Wc ⟨vx, rfl, hr, hb⟩
                have HVvx := Lib.hid hr
                have HBc := Lib.hid (below_step HBa.out hb)
                clear hr hb
                refine ⟨_, rfl, ?_⟩
                refine hK.out _ _ (⟨blk_call HBc.out HXb.out, blk_call HBc.out HYb.out⟩) (fun hHeld => ?_)
                clear hK K
                refine norm_ (a' := ?_) ?_ ?_
                rotate_left
                · show Act.put _ (some 91) _ = _
                  simp only [Act.put, List.setIfInBounds_toArray, List.set_cons_zero, List.set_cons_succ, i64_w, i32_w]
                  rfl
                refine one_ (i := 3) (N := some 93) #[true, true, true, true, false, false] rfl rfl (by kernel_rfl) (by decide) (fun K hK => ?_)
                refine goes_ Try.func48 (by kernel_rfl) rfl #[.agg (cfgC y (.slice B0 n0 d0) (.slice B18 n18 d18) (.slice B19 n19 d19))] (by rfl) rfl rfl (by (try simp only [List.map_toArray, List.map_cons, List.map_nil]); first | done | rfl) ?_
                refine (HNY.out _ (below_step HBb.out HBc.out)).mono ?_
                rintro e Wd ⟨vy, rfl, hr, hb⟩
                have HVX := Lib.hid (Kd.R_below HVvx.out hb)
                have HVvy := Lib.hid hr
                have HBd := Lib.hid (below_step HBc.out hb)
                clear hr hb
                refine ⟨_, rfl, ?_⟩
                refine hK.out _ _ (⟨blk_call HBd.out HXb.out, blk_call HBd.out HYb.out⟩) (fun hHeld => ?_)
                clear hK K
                refine norm_ (a' := ?_) ?_ ?_
                rotate_left
                · show Act.put _ (some 93) _ = _
                  simp only [Act.put, List.setIfInBounds_toArray, List.set_cons_zero, List.set_cons_succ, i64_w, i32_w]
                  rfl
                refine pure_ (i := 4) (N := some 8) (v := ?_) (a' := ?_) #[true, true, true, true, true, false] rfl rfl (by kernel_rfl) (fun _ _ _ h => h) (Or.inl ⟨by rfl, ?_⟩) ?_ ?_
                rotate_left
                · intro w'
                  go_simp
                  with_reducible rfl
                rotate_left
                · simp only [Act.put, List.setIfInBounds_toArray, List.set_cons_zero, List.set_cons_succ, i64_w, i32_w]
                  rfl
                refine pure_ (i := 5) (N := some 9) (v := ?_) (a' := ?_) #[true, true, true, true, true, true] rfl rfl (by kernel_rfl) (fun _ _ _ h => h) (Or.inl ⟨by rfl, ?_⟩) ?_ ?_
                rotate_left
                · intro w'
                  go_simp
                  with_reducible rfl
                rotate_left
                · simp only [Act.put, List.setIfInBounds_toArray, List.set_cons_zero, List.set_cons_succ, i64_w, i32_w]
                  rfl
                refine done_ (by kernel_rfl) ?_
                obtain ⟨ax, qx, rfl⟩ : ∃ a q, vx = .slice (some a) 17 q := by
                  obtain ⟨g, q, h, _⟩ := Kd.R_form HVvx.out (by show 0 < 17; omega)
                  exact ⟨_, q, h⟩
                obtain ⟨ay, qy, rfl⟩ : ∃ a q, vy = .slice (some a) 17 q := by
                  obtain ⟨g, q, h, _⟩ := Kd.R_form HVvy.out (by show 0 < 17; omega)
                  exact ⟨_, q, h⟩
                have HMX := Lib.hid (Kd.R_reads' HVX.out).2.2
                have HMY := Lib.hid (Kd.R_reads' HVvy.out).2.2
                go_wp2_with (fail)
                go_loopg [10] 17 (fun gg vj wr => ∃ (i : Nat), i ≤ 17 ∧ 17 - i ≤ gg ∧ vj = .int .i64 i ∧ Hid (∀ j, j < i → ((numsR x).getD j 0 == (numsR y).getD j 0) = true) ∧ Hid (Below Wd.heap.size Wd wr))
                case atStart => exact ⟨0, Nat.zero_le _, by omega, rfl, Lib.hid (fun j hj => absurd hj (Nat.not_lt_zero _)), Lib.hid (Below.refl _ _)⟩
                case round =>
                  obtain ⟨i, hi, hgi, rfl, HALL, HB⟩ := hrel
                  by_cases hlt : i < 17
                  · have hltz : (i : Int) < 17 := by omega
                    have w1e : IntKind.i64.wrap ((i : Int) + 1) = (i : Int) + 1 := by rw [IntKind.wrap_i64]; omega
                    obtain ⟨ax', cs, ea, _, h4, hcc⟩ := Kd.C_get HMX.out 0 (i : Int) (by omega) (by show (i : Int) < ((17 : Nat) : Int); omega)
                    cases ea
                    obtain ⟨ay', cs', eb, _, k4, hcd⟩ := Kd.C_get HMY.out 0 (i : Int) (by omega) (by show (i : Int) < ((17 : Nat) : Int); omega)
                    cases eb
                    rw [Int.toNat_natCast] at h4 hcc k4 hcd
                    obtain ⟨a, ha⟩ : ∃ a, (numsR x).getD i 0 = a := ⟨_, rfl⟩
                    obtain ⟨b, hb⟩ : ∃ b, (numsR y).getD i 0 = b := ⟨_, rfl⟩
                    have h4' : cs = [.int .i64 ((numsR x).getD i 0)] := h4
                    have k4' : cs' = [.int .i64 ((numsR y).getD i 0)] := k4
                    rw [ha] at h4'
                    rw [hb] at k4'
                    subst h4'
                    subst k4'
                    have HEX := Lib.hid (fun W (hW : Below Wd.heap.size Wd W) => show W.cell? (ax.add i) = some (.int .i64 a) by
                      have h := cap_keep (hcc 0 _ rfl) hW
                      have e : i * (Kd.int .i64).sz + 0 = i := by show i * 1 + 0 = i; omega
                      rwa [e] at h)
                    have HEY := Lib.hid (fun W (hW : Below Wd.heap.size Wd W) => show W.cell? (ay.add i) = some (.int .i64 b) by
                      have h := cap_keep (hcd 0 _ rfl) hW
                      have e : i * (Kd.int .i64).sz + 0 = i := by show i * 1 + 0 = i; omega
                      rwa [e] at h)
                    obtain ⟨q, hq⟩ : ∃ q, (a == b) = q := ⟨_, rfl⟩
                    have HNE := Lib.hid (show (a != b) = !q by rw [← hq]; rfl)
                    have HQ := Lib.hid (show ((numsR x).getD i 0 == (numsR y).getD i 0) = q by rw [ha, hb]; exact hq)
                    have HBe := Lib.hid (below_step HB.out (below_drew (Below.refl _ _)))
                    clear ha hb h4 k4 hcc hcd hq
                    go_upto_region 22 with (fail)
                    · skip
                      refine start_ (n := 9) (S := fun w' => w'.cell? (ax.add i) = some (.int .i64 a) ∧ w'.cell? (ay.add i) = some (.int .i64 b)) (ds := []) #[false, false, false, false, false, false, false, false, false] (by kernel_rfl) rfl rfl ⟨HEX.out _ HBe.out, HEY.out _ HBe.out⟩ (fun hHeld => ?_)
                      generalize wr.drew = We at HBe hHeld ⊢
                      refine pure_ (i := 0) (N := some 100) (v := ?_) (a' := ?_) #[true, false, false, false, false, false, false, false, false] rfl rfl (by kernel_rfl) (fun _ _ _ h => h) (Or.inl ⟨by rfl, ?_⟩) ?_ ?_
                      rotate_left
                      · intro w'
                        go_simp
                        with_reducible rfl
                      rotate_left
                      · simp only [Act.put, List.setIfInBounds_toArray, List.set_cons_zero, List.set_cons_succ, i64_w, i32_w]
                        rfl
                      refine pure_ (i := 1) (N := some 101) (v := ?_) (a' := ?_) #[true, true, false, false, false, false, false, false, false] rfl rfl (by kernel_rfl) (fun _ _ _ h => h) (Or.inl ⟨by rfl, ?_⟩) ?_ ?_
                      rotate_left
                      · intro w'
                        go_simp
                        with_reducible rfl
                      rotate_left
                      · simp only [Act.put, List.setIfInBounds_toArray, List.set_cons_zero, List.set_cons_succ, i64_w, i32_w]
                        rfl
                      refine pure_ (i := 2) (N := some 102) (v := ?_) (a' := ?_) #[true, true, true, false, false, false, false, false, false] rfl rfl (by kernel_rfl) (fun _ _ _ h => h) (Or.inl ⟨by rfl, ?_⟩) ?_ ?_
                      rotate_left
                      · intro w'
                        go_simp
                        with_reducible rfl
                      rotate_left
                      · simp only [Act.put, List.setIfInBounds_toArray, List.set_cons_zero, List.set_cons_succ, i64_w, i32_w]
                        rfl
                      refine take_ (i := 3) (N := some 103) (v := ?_) (a' := ?_) #[true, true, true, true, false, false, false, false, false] rfl rfl (by kernel_rfl) (fun _ _ _ h => h) (Or.inl ⟨by rfl, ?_⟩) hHeld ?_ ?_
                      rotate_left
                      · rintro w' ⟨s0, s1⟩
                        go_simp
                        with_reducible rfl
                      rotate_left
                      · simp only [Act.put, List.setIfInBounds_toArray, List.set_cons_zero, List.set_cons_succ, i64_w, i32_w]
                        rfl
                      refine pure_ (i := 4) (N := some 104) (v := ?_) (a' := ?_) #[true, true, true, true, true, false, false, false, false] rfl rfl (by kernel_rfl) (fun _ _ _ h => h) (Or.inl ⟨by rfl, ?_⟩) ?_ ?_
                      rotate_left
                      · intro w'
                        go_simp
                        with_reducible rfl
                      rotate_left
                      · simp only [Act.put, List.setIfInBounds_toArray, List.set_cons_zero, List.set_cons_succ, i64_w, i32_w]
                        rfl
                      refine pure_ (i := 5) (N := some 105) (v := ?_) (a' := ?_) #[true, true, true, true, true, true, false, false, false] rfl rfl (by kernel_rfl) (fun _ _ _ h => h) (Or.inl ⟨by rfl, ?_⟩) ?_ ?_
                      rotate_left
                      · intro w'
                        go_simp
                        with_reducible rfl
                      rotate_left
                      · simp only [Act.put, List.setIfInBounds_toArray, List.set_cons_zero, List.set_cons_succ, i64_w, i32_w]
                        rfl
                      refine pure_ (i := 6) (N := some 106) (v := ?_) (a' := ?_) #[true, true, true, true, true, true, true, false, false] rfl rfl (by kernel_rfl) (fun _ _ _ h => h) (Or.inl ⟨by rfl, ?_⟩) ?_ ?_
                      rotate_left
                      · intro w'
                        go_simp
                        with_reducible rfl
                      rotate_left
                      · simp only [Act.put, List.setIfInBounds_toArray, List.set_cons_zero, List.set_cons_succ, i64_w, i32_w]
                        rfl
                      refine take_ (i := 7) (N := some 107) (v := ?_) (a' := ?_) #[true, true, true, true, true, true, true, true, false] rfl rfl (by kernel_rfl) (fun _ _ _ h => h) (Or.inl ⟨by rfl, ?_⟩) hHeld ?_ ?_
                      rotate_left
                      · rintro w' ⟨s0, s1⟩
                        go_simp
                        with_reducible rfl
                      rotate_left
                      · simp only [Act.put, List.setIfInBounds_toArray, List.set_cons_zero, List.set_cons_succ, i64_w, i32_w]
                        rfl
                      refine pure_ (i := 8) (N := some 108) (v := ?_) (a' := ?_) #[true, true, true, true, true, true, true, true, true] rfl rfl (by kernel_rfl) (fun _ _ _ h => h) (Or.inl ⟨by rfl, ?_⟩) ?_ ?_
                      rotate_left
                      · intro w'
                        have hne := HNE.out
                        go_simp
                        with_reducible rfl
                      rotate_left
                      · simp only [Act.put, List.setIfInBounds_toArray, List.set_cons_zero, List.set_cons_succ, i64_w, i32_w]
                        rfl
                      refine done_ (by kernel_rfl) ?_
                      cases q with
                      | false =>
                        have hrf : r = false := by
                          rw [HRS.out, HTP.out, HTB.out, HTL.out, Bool.true_and, Bool.true_and, Bool.true_and]
                          exact sameL_false (i := i) hlt HQ.out
                        subst hrf
                        go_wp2_with (fail)
                        go_ret
                        exact ⟨rfl, below_step HBb.out (below_step HBd.out HBe.out)⟩
                      | true =>
                        go_wp2_with (fail)
                        go_roundg (17 - (i + 1))
                        case measure => omega
                        case rel =>
                          refine ⟨i + 1, by omega, by omega, by go_num, Lib.hid (fun j hj => ?_), HBe⟩
                          rcases Nat.lt_or_eq_of_le (Nat.le_of_lt_succ hj) with h | h
                          · exact HALL.out j h
                          · subst h; exact HQ.out
                  · have hin : i = 17 := by omega
                    subst hin
                    have hrt : r = true := by
                      rw [HRS.out, HTP.out, HTB.out, HTL.out, Bool.true_and, Bool.true_and, Bool.true_and]
                      exact sameL_true (fun j hj => HALL.out j hj)
                    subst hrt
                    go_wp2_with (fail)
                    go_ret
                    exact ⟨rfl, below_step HBb.out (below_step HBd.out HB.out)⟩
end Go.Proofs.Ytgiokbhedblkfaa.C
/- How arguments of the printed types are read (printed by genopens.py). -/
namespace Go.Proofs.Ytgiokbhedblkfaa.H
open Go.RowKit Go.Proofs.YtgiokbhedblkfaaW.PrintWords Go.Proofs.YtgiokbhedblkfaaW.PrintLast Go.Proofs.YtgiokbhedblkfaaW.PrintMore Go.Proofs.Ytgiokbhedblkfaa.C
open Go.ChangeShapes Go.WideShapes Go.ChangeAt
set_option linter.unusedVariables false
set_option linter.unusedSimpArgs false
theorem Opens.weak {P : Program} {t : TypeId} {α : Type} {k : Kd α} {wf : α → Prop} (h : Opens P t k wf) : Opens P t k (fun _ => True) where
  size := h.size
  read := fun hr hw => by
    obtain ⟨a, ha, _⟩ := h.read hr hw
    exact ⟨a, ha, trivial⟩
theorem o_intT {P : Program} {q : IntKind} (t : TypeId) (ht : P.underlying t = some (.int q)) (hc : P.cellsOf t = 1) : Opens P t (Kd.int q) (fun _ => True) := (Opens.int ht hc).weak
theorem o_boolT {P : Program} (t : TypeId) (ht : P.underlying t = some .bool) (hc : P.cellsOf t = 1) : Opens P t Kd.bool (fun _ => True) := Opens.bool ht hc
theorem o_stringT {P : Program} (t : TypeId) (ht : P.underlying t = some .string) (hc : P.cellsOf t = 1) : Opens P t Kd.string (fun _ => True) := (Opens.string ht hc).weak
theorem oT37 : Opens Try.prog 37 k37 (fun _ => True) :=
  (Opens.iso (Opens.struct (k := Kd.pair Kd.string (Kd.pair Kd.bool (Kd.pair (Kd.int .i64) (Kd.int .i64)))) Try.underlying37 rfl
    ((OpensFs.cons (o_stringT 9 Try.underlying9 (by kernel_rfl)) (OpensFs.cons (o_boolT 4 Try.underlying4 (by kernel_rfl)) (OpensFs.cons (o_intT 2 Try.underlying2 (by kernel_rfl)) (OpensFs.one (o_intT 2 Try.underlying2 (by kernel_rfl)))))) : OpensFs _ _ (Kd.pair Kd.string (Kd.pair Kd.bool (Kd.pair (Kd.int .i64) (Kd.int .i64)))) _)
    (by kernel_rfl) (by kernel_rfl) (by kernel_rfl)) (fun x : S37 => (x.f0, x.f1, x.f2, x.f3))
    (fun p => ⟨p.1, p.2.1, p.2.2.1, p.2.2.2⟩) (fun _ => rfl)).weak
theorem oT39 : Opens Try.prog 39 k39 (fun _ => True) :=
  (Opens.iso (Opens.struct (k := Kd.pair (Kd.int .i64) (Kd.int .i64)) Try.underlying39 rfl
    ((OpensFs.cons (o_intT 2 Try.underlying2 (by kernel_rfl)) (OpensFs.one (o_intT 2 Try.underlying2 (by kernel_rfl)))) : OpensFs _ _ (Kd.pair (Kd.int .i64) (Kd.int .i64)) _)
    (by kernel_rfl) (by kernel_rfl) (by kernel_rfl)) (fun x : S39 => (x.f0, x.f1))
    (fun p => ⟨p.1, p.2⟩) (fun _ => rfl)).weak
theorem oT41 : Opens Try.prog 41 k41 (fun _ => True) :=
  (Opens.iso (Opens.struct (k := Kd.pair (Kd.int .u64) (Kd.pair (Kd.int .u64) (Kd.int .i64))) Try.underlying41 rfl
    ((OpensFs.cons (o_intT 23 Try.underlying23 (by kernel_rfl)) (OpensFs.cons (o_intT 23 Try.underlying23 (by kernel_rfl)) (OpensFs.one (o_intT 2 Try.underlying2 (by kernel_rfl))))) : OpensFs _ _ (Kd.pair (Kd.int .u64) (Kd.pair (Kd.int .u64) (Kd.int .i64))) _)
    (by kernel_rfl) (by kernel_rfl) (by kernel_rfl)) (fun x : S41 => (x.f0, x.f1, x.f2))
    (fun p => ⟨p.1, p.2.1, p.2.2⟩) (fun _ => rfl)).weak
instance : Inhabited S37 := ⟨z37⟩
theorem oL37 : Opens Try.prog 22 (Kd.slice 37 k37) (fun l => l.length ≤ 9223372036854775807 ∧ l.length * 40 ≤ 140737488351232 ∧ ∀ x ∈ l, True) :=
  Opens.slice (bytes := 40) Try.underlying22 (by kernel_rfl) oT37 (by kernel_rfl)
instance : Inhabited S39 := ⟨z39⟩
theorem oL39 : Opens Try.prog 24 (Kd.slice 39 k39) (fun l => l.length ≤ 9223372036854775807 ∧ l.length * 16 ≤ 140737488351232 ∧ ∀ x ∈ l, True) :=
  Opens.slice (bytes := 16) Try.underlying24 (by kernel_rfl) oT39 (by kernel_rfl)
instance : Inhabited S41 := ⟨z41⟩
theorem oL41 : Opens Try.prog 25 (Kd.slice 41 k41) (fun l => l.length ≤ 9223372036854775807 ∧ l.length * 24 ≤ 140737488351232 ∧ ∀ x ∈ l, True) :=
  Opens.slice (bytes := 24) Try.underlying25 (by kernel_rfl) oT41 (by kernel_rfl)
theorem oT27 : Opens Try.prog 27 k27 (fun _ => True) :=
  (Opens.iso (Opens.struct (k := Kd.pair (Kd.slice 37 k37) (Kd.pair (Kd.int .u8) (Kd.pair (Kd.int .i64) (Kd.pair Kd.bool (Kd.pair (Kd.int .i64) (Kd.pair (Kd.int .i64) (Kd.pair (Kd.int .i64) (Kd.pair (Kd.int .i64) (Kd.pair (Kd.int .i64) (Kd.pair (Kd.int .i64) (Kd.pair (Kd.int .u64) (Kd.pair (Kd.int .u64) (Kd.pair (Kd.int .u64) (Kd.pair (Kd.int .u64) (Kd.pair (Kd.int .u64) (Kd.pair (Kd.int .u64) (Kd.pair Kd.bool (Kd.pair (Kd.int .i64) (Kd.pair (Kd.slice 39 k39) (Kd.slice 41 k41)))))))))))))))))))) Try.underlying27 rfl
    ((OpensFs.cons oL37 (OpensFs.cons (o_intT 5 Try.underlying5 (by kernel_rfl)) (OpensFs.cons (o_intT 2 Try.underlying2 (by kernel_rfl)) (OpensFs.cons (o_boolT 4 Try.underlying4 (by kernel_rfl)) (OpensFs.cons (o_intT 2 Try.underlying2 (by kernel_rfl)) (OpensFs.cons (o_intT 2 Try.underlying2 (by kernel_rfl)) (OpensFs.cons (o_intT 2 Try.underlying2 (by kernel_rfl)) (OpensFs.cons (o_intT 2 Try.underlying2 (by kernel_rfl)) (OpensFs.cons (o_intT 2 Try.underlying2 (by kernel_rfl)) (OpensFs.cons (o_intT 2 Try.underlying2 (by kernel_rfl)) (OpensFs.cons (o_intT 23 Try.underlying23 (by kernel_rfl)) (OpensFs.cons (o_intT 23 Try.underlying23 (by kernel_rfl)) (OpensFs.cons (o_intT 23 Try.underlying23 (by kernel_rfl)) (OpensFs.cons (o_intT 23 Try.underlying23 (by kernel_rfl)) (OpensFs.cons (o_intT 23 Try.underlying23 (by kernel_rfl)) (OpensFs.cons (o_intT 23 Try.underlying23 (by kernel_rfl)) (OpensFs.cons (o_boolT 4 Try.underlying4 (by kernel_rfl)) (OpensFs.cons (o_intT 2 Try.underlying2 (by kernel_rfl)) (OpensFs.cons oL39 (OpensFs.one oL41)))))))))))))))))))) : OpensFs _ _ (Kd.pair (Kd.slice 37 k37) (Kd.pair (Kd.int .u8) (Kd.pair (Kd.int .i64) (Kd.pair Kd.bool (Kd.pair (Kd.int .i64) (Kd.pair (Kd.int .i64) (Kd.pair (Kd.int .i64) (Kd.pair (Kd.int .i64) (Kd.pair (Kd.int .i64) (Kd.pair (Kd.int .i64) (Kd.pair (Kd.int .u64) (Kd.pair (Kd.int .u64) (Kd.pair (Kd.int .u64) (Kd.pair (Kd.int .u64) (Kd.pair (Kd.int .u64) (Kd.pair (Kd.int .u64) (Kd.pair Kd.bool (Kd.pair (Kd.int .i64) (Kd.pair (Kd.slice 39 k39) (Kd.slice 41 k41)))))))))))))))))))) _)
    (by kernel_rfl) (by kernel_rfl) (by kernel_rfl)) (fun x : S27 => (x.f0, x.f1, x.f2, x.f3, x.f4, x.f5, x.f6, x.f7, x.f8, x.f9, x.f10, x.f11, x.f12, x.f13, x.f14, x.f15, x.f16, x.f17, x.f18, x.f19))
    (fun p => ⟨p.1, p.2.1, p.2.2.1, p.2.2.2.1, p.2.2.2.2.1, p.2.2.2.2.2.1, p.2.2.2.2.2.2.1, p.2.2.2.2.2.2.2.1, p.2.2.2.2.2.2.2.2.1, p.2.2.2.2.2.2.2.2.2.1, p.2.2.2.2.2.2.2.2.2.2.1, p.2.2.2.2.2.2.2.2.2.2.2.1, p.2.2.2.2.2.2.2.2.2.2.2.2.1, p.2.2.2.2.2.2.2.2.2.2.2.2.2.1, p.2.2.2.2.2.2.2.2.2.2.2.2.2.2.1, p.2.2.2.2.2.2.2.2.2.2.2.2.2.2.2.1, p.2.2.2.2.2.2.2.2.2.2.2.2.2.2.2.2.1, p.2.2.2.2.2.2.2.2.2.2.2.2.2.2.2.2.2.1, p.2.2.2.2.2.2.2.2.2.2.2.2.2.2.2.2.2.2.1, p.2.2.2.2.2.2.2.2.2.2.2.2.2.2.2.2.2.2.2⟩) (fun _ => rfl)).weak
end Go.Proofs.Ytgiokbhedblkfaa.H
/- ConfFresh: the walk. -/
namespace Go.Proofs.Ytgiokbhedblkfaa.C
open Go.RowKit Go.Proofs.YtgiokbhedblkfaaW.PrintWords Go.Proofs.YtgiokbhedblkfaaW.PrintLast Go.Proofs.YtgiokbhedblkfaaW.PrintMore Go.Proofs.Ytgiokbhedblkfaa.H
set_option linter.unusedVariables false
set_option linter.unusedSimpArgs false
theorem sameC_refl (x : S27) : sameC x x = true := by
  unfold sameC
  rw [decide_eq_true ⟨rfl, rfl, rfl⟩, sameL_true (fun i _ => (eqP_iff _ _).2 rfl), sameL_true (fun i _ => (eqB_iff _ _).2 rfl), sameL_true (fun i _ => (eqL_iff _ _).2 rfl), sameL_true (fun i _ => by simp)]
  rfl
theorem great_calls (x : S27) (A0 A18 A19 : Option Addr) (c0 c18 c19 : Nat) (w : World) (h0 : Kd.C k37 w A0 x.f0.length x.f0) (h18 : Kd.C k39 w A18 x.f18.length x.f18) (h19 : Kd.C k41 w A19 x.f19.length x.f19) (k0 : x.f0.length ≤ c0) (k18 : x.f18.length ≤ c18) (k19 : x.f19.length ≤ c19) :
    ∃ b, (b = false → x.f0.length ≤ 100 ∧ x.f18.length ≤ 50 ∧ x.f19.length ≤ 50) ∧ Calls Try.prog 10 #[.agg (cfgC x (.slice A0 x.f0.length c0) (.slice A18 x.f18.length c18) (.slice A19 x.f19.length c19))] w fun e w' => e = .returned (.bool b) ∧ Below w.heap.size w w' := by
  have key : ∃ b, cohortlaw11_great.f x.f0 x.f1 x.f2 x.f3 x.f4 x.f5 x.f6 x.f7 x.f8 x.f9 x.f10 x.f11 x.f12 x.f13 x.f14 x.f15 x.f16 x.f17 x.f18 x.f19 = some b ∧ (b = false → x.f0.length ≤ 100 ∧ x.f18.length ≤ 50 ∧ x.f19.length ≤ 50) := by
    unfold cohortlaw11_great.f
    split
    · exact ⟨true, rfl, fun h => by cases h⟩
    · split
      · exact ⟨true, rfl, fun h => by cases h⟩
      · refine ⟨_, rfl, fun h => ?_⟩
        have := of_decide_eq_false h
        omega
  obtain ⟨b, hb, hl⟩ := key
  exact ⟨b, hl, cohortlaw11_great.calls A0 c0 x.f0 x.f1 x.f2 x.f3 x.f4 x.f5 x.f6 x.f7 x.f8 x.f9 x.f10 x.f11 x.f12 x.f13 x.f14 x.f15 x.f16 x.f17 A18 c18 x.f18 A19 c19 x.f19 b w h0 k0 h18 k18 h19 k19 hb⟩
/-- A store into an element of a row of one's own: from the element's cell j on the cells seg. -/
theorem storeE {α : Type} {P : Program} {ops : Array Oper} {o : Oper} {rest : List Oper} {a : Act} {Q : Exit → Act → World → Prop} (d : Kd α) {w0 W : World} (base : Nat) (hN : o.dst = none) (hgd : o.guard = none) (t : TypeId) (p x : Operand) (ho : o.op = .store t p x) (e : TypeId) {g n cap i : Nat} (j : Nat) (xs : List α) (x' : α) (u : Value) (seg : List Value) (ok okp : Nat → Prop)
    (haddr : a.eval p = .pointer (some ⟨g, i * d.sz + j, none⟩)) (hx : a.eval x = u) (hu : u.cells.toList = seg) (ht : (P.info? t).map (·.size) = some seg.length) (h1 : ∀ q ∈ seg, q.oneCell' = true)
    (HO : d.R e W base ok (.slice (some ⟨g, 0, none⟩) n cap) xs) (hi : i < n) (hj : j + seg.length ≤ d.sz) (z : α) (hM : ∀ c, d.K W (xs.getD i z) c → d.M W base okp x' (c.take j ++ seg ++ c.drop (j + seg.length))) (hokp : ∀ k, okp k → ok k ∧ k ≠ g) (HB : Below base w0 W)
    (h : ∀ w1, d.R e w1 base ok (.slice (some ⟨g, 0, none⟩) n cap) (xs.set i x') → Below base w0 w1 → W.grownBy w1 (some g) → wpList P ops Q rest a w1) : wpList P ops Q (o :: rest) a W := by
  obtain ⟨c, hcl, hck, hcc, _⟩ := Kd.R_elem HO z (i : Int) (by omega) (by omega)
  refine Kd.R_store d (w0 := w0) base hN hgd t p x ho e (i : Int) j xs x' u seg c ok okp haddr (by rw [Int.toNat_natCast]) hx hu ht h1 HO (by omega) (by omega) hcl hcc hj (hM c ?_) hokp HB ?_
  · rw [Int.toNat_natCast] at hck
    exact d.K_of_M hck
  · intro w1 hr hb hg
    rw [Int.toNat_natCast] at hr
    exact h w1 hr hb hg
end Go.Proofs.Ytgiokbhedblkfaa.C
/- ConfFresh: the walk. -/
namespace Go.Proofs.Ytgiokbhedblkfaa.C
open Go.RowKit Go.Proofs.YtgiokbhedblkfaaW.PrintWords Go.Proofs.YtgiokbhedblkfaaW.PrintLast Go.Proofs.YtgiokbhedblkfaaW.PrintMore Go.Proofs.Ytgiokbhedblkfaa.H
set_option linter.unusedVariables false
set_option linter.unusedSimpArgs false
def otherP : S37 := ⟨⟨#[111, 116, 104, 101, 114]⟩, false, 0, 0⟩
set_option maxHeartbeats 16000000 in
set_option maxRecDepth 100000 in
theorem fresh_calls (x : S27) (A0 A18 A19 : Option Addr) (c0 c18 c19 : Nat) (w : World) (h0 : Kd.C k37 w A0 x.f0.length x.f0) (h18 : Kd.C k39 w A18 x.f18.length x.f18) (h19 : Kd.C k41 w A19 x.f19.length x.f19) (k0 : x.f0.length ≤ c0) (k18 : x.f18.length ≤ c18) (k19 : x.f19.length ≤ c19) :
    Calls Try.prog 3 #[.agg (cfgC x (.slice A0 x.f0.length c0) (.slice A18 x.f18.length c18) (.slice A19 x.f19.length c19))] w fun e w' => e = .returned (.bool true) ∧ Below w.heap.size w w' := by
  have g1 := heap_alloc_new w (.cells (cfgC x (.slice A0 x.f0.length c0) (.slice A18 x.f18.length c18) (.slice A19 x.f19.length c19)) 27 (0, 0))
  have b1 := (Below.refl w.heap.size w).alloc (Nat.le_refl _) (.cells (cfgC x (.slice A0 x.f0.length c0) (.slice A18 x.f18.length c18) (.slice A19 x.f19.length c19)) 27 (0, 0))
  have HG1 := Lib.hid g1
  have HB1 := Lib.hid b1
  obtain ⟨gr, hgl, hgc⟩ := great_calls x A0 A18 A19 c0 c18 c19 _ (Kd.C_below h0 b1) (Kd.C_below h18 b1) (Kd.C_below h19 b1) k0 k18 k19
  have KG := Lib.hid hgc
  have HGL := Lib.hid hgl
  have KR := Lib.hid (fun W (hW : Below w.heap.size w W) (l : x.f0.length ≤ 100 ∧ x.f18.length ≤ 50 ∧ x.f19.length ≤ 50) => rcopy_calls x A0 A18 A19 c0 c18 c19 W (Kd.C_below h0 hW) (Kd.C_below h18 hW) (Kd.C_below h19 hW) (by omega) (by omega) (by omega))
  simp only [cfgV] at KR
  have HH := Lib.hid (And.intro h0 (And.intro h18 h19))
  have HK := Lib.hid (And.intro k0 (And.intro k18 k19))
  clear g1 b1 hgl hgc h0 h18 h19 k0 k18 k19
  go_enter Try.func3, Try.ntmps3
  go_upto_region 1 with (fail)
  generalize (w.alloc (.cells (cfgC x (.slice A0 x.f0.length c0) (.slice A18 x.f18.length c18) (.slice A19 x.f19.length c19)) 27 (0, 0))) = wx at HB1 HG1 KG ⊢
  obtain ⟨ga, hga⟩ : ∃ g, w.heap.size = g := ⟨_, rfl⟩
  rw [hga] at HG1 ⊢
  have HGA := Lib.hid hga
  clear hga
  cases gr with
  | true =>
    go_wp2_with (first
      | ((with_reducible refine gate_load 27 rfl ?_); refine wpList_load_row rfl 27 _ rfl _ rfl 27 _ _ _ HG1.out Try.underlying27 rfl (by kernel_rfl) ?_)
      | (go_at_call 10; refine KG.out.mono ?_; rintro e w2 ⟨rfl, hb⟩; have HB2 := Lib.hid (below_step HB1.out hb); clear hb)
      | (go_at_call 11; refine (lives_calls _).mono ?_; rintro e w3 ⟨rfl, hb⟩; have HB3 := Lib.hid (below_step HB2.out hb); clear hb))
    go_ret
    exact ⟨rfl, HB3.out⟩
  | false =>
    have HLE := Lib.hid (HGL.out rfl)
    go_upto_region 3 with (first
      | ((with_reducible refine gate_load 27 rfl ?_); refine wpList_load_row rfl 27 _ rfl _ rfl 27 _ _ _ HG1.out Try.underlying27 rfl (by kernel_rfl) ?_)
      | (go_at_call 10; refine KG.out.mono ?_; rintro e w2 ⟨rfl, hb⟩; have HB2 := Lib.hid (below_step HB1.out hb); have HG2 := Lib.hid (blk_call hb HG1.out); clear hb))
    clear HG1 HB1 KG HGL
    go_upto_region 4 with (first
      | ((with_reducible refine gate_load 27 rfl ?_); refine wpList_load_row rfl 27 _ rfl _ rfl 27 _ _ _ HG2.out Try.underlying27 rfl (by kernel_rfl) ?_)
      | (go_at_call 12; refine (KR.out _ HB2.out HLE.out).mono ?_; rintro e w3 ⟨v0, v18, v19, rfl, hr0, hr18, hr19, hb⟩; obtain ⟨P0, p0, hu0⟩ := Kd.R_slice hr0; obtain ⟨P18, p18, hu18⟩ := Kd.R_slice hr18; obtain ⟨P19, p19, hu19⟩ := Kd.R_slice hr19; subst hu0; subst hu18; subst hu19; have HB3 := Lib.hid (below_step HB2.out hb); have HG3 := Lib.hid (blk_call hb HG2.out); have HP0 := Lib.hid (Kd.R_reads' hr0).2; have HP18 := Lib.hid (Kd.R_reads' hr18).2; have HP19 := Lib.hid (Kd.R_reads' hr19).2; clear hr0 hr18 hr19 hb)
      | ((with_reducible refine gate_storeT 27 rfl ?_); refine wpList_store_row rfl 27 _ _ rfl _ _ rfl rfl 27 _ (heap_alloc_new _ _) (by kernel_rfl) rfl (cfg_one x _ _ _ rfl rfl rfl) ?_; rw [setRow_alloc]))
    rw [put_no_]
    have hbl := (Below.refl w3.heap.size w3).alloc (Nat.le_refl _) (.cells (cfgC x (.slice P0 x.f0.length p0) (.slice P18 x.f18.length p18) (.slice P19 x.f19.length p19)) 27 (0, 0))
    have HU4 := Lib.hid (heap_alloc_new w3 (.cells (cfgC x (.slice P0 x.f0.length p0) (.slice P18 x.f18.length p18) (.slice P19 x.f19.length p19)) 27 (0, 0)))
    have HB4 := Lib.hid (below_step HB3.out hbl)
    have HG4 := Lib.hid (blk_call hbl HG3.out)
    have HQ0 := Lib.hid (And.intro HP0.out.1 (Kd.C_below HP0.out.2 hbl))
    have HQ18 := Lib.hid (And.intro HP18.out.1 (Kd.C_below HP18.out.2 hbl))
    have HQ19 := Lib.hid (And.intro HP19.out.1 (Kd.C_below HP19.out.2 hbl))
    generalize (w3.alloc (.cells (cfgC x (.slice P0 x.f0.length p0) (.slice P18 x.f18.length p18) (.slice P19 x.f19.length p19)) 27 (0, 0))) = wB at HU4 HB4 HG4 HQ0 HQ18 HQ19 ⊢
    obtain ⟨gu, hgu⟩ : ∃ g, w3.heap.size = g := ⟨_, rfl⟩
    rw [hgu] at HU4 ⊢
    clear hbl hgu HP0 HP18 HP19 HB3 HG3 HG2 HB2 KR
    have KC := Lib.hid (copy_calls x P0 P18 P19 p0 p18 p19 wB HQ0.out.2 HQ18.out.2 HQ19.out.2 (by have := HLE.out; omega) (by have := HLE.out; omega) (by have := HLE.out; omega))
    simp only [cfgV] at KC
    have KH := Lib.hid (fun W (hW : Below wB.heap.size wB W) => check_calls x P0 P18 P19 p0 p18 p19 W (Kd.C_below HQ0.out.2 hW) (Kd.C_below HQ18.out.2 hW) (Kd.C_below HQ19.out.2 hW))
    simp only [cfgV] at KH
    have KY := Lib.hid (fun W (hW : Below wB.heap.size wB W) => bytes_calls x P0 P18 P19 p0 p18 p19 W (Kd.C_below HQ0.out.2 hW) (Kd.C_below HQ18.out.2 hW) (Kd.C_below HQ19.out.2 hW))
    simp only [cfgV] at KY
    have KS := Lib.hid (fun W (hW : Below wB.heap.size wB W) => rsame_calls x x P0 P18 P19 A0 A18 A19 p0 p18 p19 c0 c18 c19 W (Kd.C_below HQ0.out.2 hW) (Kd.C_below HQ18.out.2 hW) (Kd.C_below HQ19.out.2 hW) (Kd.C_below HH.out.1 (below_step HB4.out hW)) (Kd.C_below HH.out.2.1 (below_step HB4.out hW)) (Kd.C_below HH.out.2.2 (below_step HB4.out hW)) ⟨HQ0.out.1, HQ18.out.1, HQ19.out.1⟩ HK.out)
    rw [sameC_refl] at KS
    go_upto_region 5 with (first
      | ((with_reducible refine gate_load 27 rfl ?_); refine wpList_load_row rfl 27 _ rfl _ rfl 27 _ _ _ HU4.out Try.underlying27 rfl (by kernel_rfl) ?_)
      | (go_at_call 13; refine KC.out.mono ?_; rintro e w5 ⟨v0, v18, v19, rfl, hr0, hr18, hr19, hb⟩; obtain ⟨Q0, q0, hu0⟩ := Kd.R_slice hr0; obtain ⟨Q18, q18, hu18⟩ := Kd.R_slice hr18; obtain ⟨Q19, q19, hu19⟩ := Kd.R_slice hr19; subst hu0; subst hu18; subst hu19; have HB5 := Lib.hid hb; have HR0 := Lib.hid hr0; have HR18 := Lib.hid hr18; have HR19 := Lib.hid hr19; clear hr0 hr18 hr19 hb)
      | ((with_reducible refine gate_storeT 27 rfl ?_); refine wpList_store_row rfl 27 _ _ rfl _ _ rfl rfl 27 _ (heap_alloc_new _ _) (by kernel_rfl) rfl (cfg_one x _ _ _ rfl rfl rfl) ?_; rw [setRow_alloc]))
    rw [put_no_]
    have hbl := (Below.refl w5.heap.size w5).alloc (Nat.le_refl _) (.cells (cfgC x (.slice Q0 x.f0.length q0) (.slice Q18 x.f18.length q18) (.slice Q19 x.f19.length q19)) 27 (0, 0))
    have HV6 := Lib.hid (heap_alloc_new w5 (.cells (cfgC x (.slice Q0 x.f0.length q0) (.slice Q18 x.f18.length q18) (.slice Q19 x.f19.length q19)) 27 (0, 0)))
    have HB6 := Lib.hid (below_step HB5.out hbl)
    have HR60 := Lib.hid (Kd.R_below HR0.out hbl)
    have HR618 := Lib.hid (Kd.R_below HR18.out hbl)
    have HR619 := Lib.hid (Kd.R_below HR19.out hbl)
    generalize (w5.alloc (.cells (cfgC x (.slice Q0 x.f0.length q0) (.slice Q18 x.f18.length q18) (.slice Q19 x.f19.length q19)) 27 (0, 0))) = w6 at HV6 HB6 HR60 HR618 HR619 ⊢
    obtain ⟨gv, hgv⟩ : ∃ g, w5.heap.size = g := ⟨_, rfl⟩
    rw [hgv] at HV6 ⊢
    clear hbl hgv HB5 HR0 HR18 HR19 KC
    have HU6 := Lib.hid (blk_call HB6.out HU4.out)
    go_upto_region 6 with (first
      | ((with_reducible refine gate_load 27 rfl ?_); refine wpList_load_row rfl 27 _ rfl _ rfl 27 _ _ _ HU6.out Try.underlying27 rfl (by kernel_rfl) ?_)
      | (go_at_call 14; refine (KH.out _ HB6.out).mono ?_; rintro e w7 ⟨rfl, hb⟩; have HB7 := Lib.hid (below_step HB6.out hb); have HV7 := Lib.hid (blk_call hb HV6.out); have HU7 := Lib.hid (blk_call hb HU6.out); have HR70 := Lib.hid (Kd.R_below HR60.out hb); have HR718 := Lib.hid (Kd.R_below HR618.out hb); have HR719 := Lib.hid (Kd.R_below HR619.out hb); clear hb))
    go_upto_region 7 with (first
      | ((with_reducible refine gate_load 27 rfl ?_); refine wpList_load_row rfl 27 _ rfl _ rfl 27 _ _ _ HU7.out Try.underlying27 rfl (by kernel_rfl) ?_)
      | (go_at_call 15; refine (KY.out _ HB7.out).mono ?_; rintro e w8 ⟨vy, rfl, _, hb⟩; have HB8 := Lib.hid (below_step HB7.out hb); have HV8 := Lib.hid (blk_call hb HV7.out); have HR80 := Lib.hid (Kd.R_below HR70.out hb); have HR818 := Lib.hid (Kd.R_below HR718.out hb); have HR819 := Lib.hid (Kd.R_below HR719.out hb); clear hb))
    clear HU6 HU7 HV6 HV7 HB6 HB7 HR60 HR618 HR619 HR70 HR718 HR719 KH KY
    obtain ⟨n0, hn0⟩ : ∃ n, x.f0.length = n := ⟨_, rfl⟩
    obtain ⟨n18, hn18⟩ : ∃ n, x.f18.length = n := ⟨_, rfl⟩
    obtain ⟨n19, hn19⟩ : ∃ n, x.f19.length = n := ⟨_, rfl⟩
    rw [hn0, hn18, hn19] at HV8 HU4 HG4 KS HLE ⊢
    rw [hn0] at HR80
    rw [hn18] at HR818
    rw [hn19] at HR819
    have HN := Lib.hid (And.intro hn0 (And.intro hn18 hn19))
    clear hn0 hn18 hn19
    have HV := HV8
    have HB := HB8
    have HS0 := HR80
    have HS18 := HR818
    have HS19 := HR819
    clear HV8 HB8 HR80 HR818 HR819
    obtain ⟨wr, hwr⟩ : ∃ wr, wr = w8 := ⟨_, rfl⟩
    subst hwr
    have hcv := blk_cellk HV.out 0 (v := .slice Q0 n0 q0) rfl
    go_wp2_with (fail)
    clear hcv
    go_loopg [5] n0 (fun gg vj wq => ∃ (i : Nat) (xs : List S37), i ≤ n0 ∧ n0 - i ≤ gg ∧ vj = .int .i64 i ∧ Hid (Kd.R k37 37 wq wB.heap.size (fun _ => True) (.slice Q0 n0 q0) xs) ∧ Hid (wq.heap[gv]? = some (.cells (cfgC x (.slice Q0 n0 q0) (.slice Q18 n18 q18) (.slice Q19 n19 q19)) 27 (0, 0))) ∧ Hid (Below wB.heap.size wB wq) ∧ Hid (Kd.R k39 39 wq wB.heap.size (fun _ => True) (.slice Q18 n18 q18) x.f18) ∧ Hid (Kd.R k41 41 wq wB.heap.size (fun _ => True) (.slice Q19 n19 q19) x.f19))
    case atStart => exact ⟨0, x.f0, Nat.zero_le _, by omega, rfl, HS0, HV, HB, HS18, HS19⟩
    case round =>
      clear HV HB HS0 HS18 HS19
      obtain ⟨i, xs, hi, hgi, rfl, HO, HV, HB, HS18, HS19⟩ := hrel
      have hcv := blk_cellk HV.out 0 (v := .slice Q0 n0 q0) rfl
      by_cases hlt : i < n0
      · have hltz : (i : Int) < (n0 : Int) := by omega
        have w1e : IntKind.i64.wrap ((i : Int) + 1) = (i : Int) + 1 := by rw [IntKind.wrap_i64]; have := HLE.out; omega
        have hxl : n0 = xs.length := (Kd.R_reads' HO.out).1
        obtain ⟨g, cap, hf, _⟩ := Kd.R_form HO.out (by omega)
        injection hf with hA hB2 hC2
        subst hA
        clear hB2 hC2 hxl
        go_wp2_with (first
          | ((with_reducible refine gate_storeT 37 rfl ?_); refine storeE k37 (w0 := wB) wB.heap.size rfl rfl 37 (.tmp 30) (.tmp 29) rfl 37 (i := i) 0 xs otherP _ [.string ⟨#[111, 116, 104, 101, 114]⟩, .bool false, .int .i64 0, .int .i64 0] (fun _ => True) (fun _ => False) rfl rfl rfl (by kernel_rfl) (by simp [Value.oneCell']) HO.out hlt (Nat.le_refl _) z37 (fun c hc => by have e := k37_open hc; subst e; exact k37_mkM _ _ _ otherP) (fun _ h => h.elim) HB.out ?_; intro w9 hr hb hg; have HOn := Lib.hid hr; have HBn := Lib.hid hb; have HVn := Lib.hid ((hg.block gv (blk_lt HV.out) (Kd.R_ne HO.out HV.out (by decide))).trans HV.out); have HS18n := Lib.hid (Kd.R_over HS18.out HO.out (by decide) hg); have HS19n := Lib.hid (Kd.R_over HS19.out HO.out (by decide) hg); clear hr hb hg))
        go_roundg (n0 - (i + 1))
        case measure => omega
        case rel => exact ⟨i + 1, _, by omega, by omega, by go_num, HOn, HVn, HBn, HS18n, HS19n⟩
      · have hin : n0 = i := by omega
        subst hin
        have hcv := blk_cellk HV.out 18 (v := .slice Q18 n18 q18) rfl
        go_wp2_with (fail)
        clear hcv
        go_loopg [6] n18 (fun gg vj wq => ∃ (i : Nat) (xs : List S39), i ≤ n18 ∧ n18 - i ≤ gg ∧ vj = .int .i64 i ∧ Hid (Kd.R k39 39 wq wB.heap.size (fun _ => True) (.slice Q18 n18 q18) xs) ∧ Hid (wq.heap[gv]? = some (.cells (cfgC x (.slice Q0 n0 q0) (.slice Q18 n18 q18) (.slice Q19 n19 q19)) 27 (0, 0))) ∧ Hid (Below wB.heap.size wB wq) ∧ Hid (Kd.R k41 41 wq wB.heap.size (fun _ => True) (.slice Q19 n19 q19) x.f19))
        case atStart => exact ⟨0, x.f18, Nat.zero_le _, by omega, rfl, HS18, HV, HB, HS19⟩
        case round =>
          clear HV HB HS18 HS19
          obtain ⟨i, xs, hi, hgi, rfl, HO, HV, HB, HS19⟩ := hrel
          have hcv := blk_cellk HV.out 18 (v := .slice Q18 n18 q18) rfl
          by_cases hlt : i < n18
          · have hltz : (i : Int) < (n18 : Int) := by omega
            have w1e : IntKind.i64.wrap ((i : Int) + 1) = (i : Int) + 1 := by rw [IntKind.wrap_i64]; have := HLE.out; omega
            have hxl : n18 = xs.length := (Kd.R_reads' HO.out).1
            obtain ⟨g, cap, hf, _⟩ := Kd.R_form HO.out (by omega)
            injection hf with hA hB2 hC2
            subst hA
            clear hB2 hC2 hxl
            obtain ⟨y, hy⟩ : ∃ y, xs.getD i z39 = y := ⟨_, rfl⟩
            obtain ⟨c, hcl, hck, hcc, hcf⟩ := Kd.R_elem HO.out z39 (i : Int) (by omega) (by omega)
            rw [Int.toNat_natCast] at hck hcc hcf
            have he := k39_open (Kd.K_of_M _ hck)
            rw [hy] at he
            subst he
            have hcr := hcc 1 _ rfl
            have hcell : wr.cell? ⟨g, i * 2 + 1, none⟩ = some (.int .i64 y.f1) := hcr
            have HY := Lib.hid hy
            clear hcl hck hcc hcf hcr hy
            go_wp2_with (first
              | ((with_reducible refine gate_storeT 2 rfl ?_); refine storeE k39 (w0 := wB) wB.heap.size rfl rfl 2 (.tmp 46) (.tmp 44) rfl 39 (i := i) 1 xs ⟨y.f0, wrap64 (y.f1 + 1)⟩ _ [.int .i64 (wrap64 (y.f1 + 1))] (fun _ => True) (fun _ => False) rfl rfl rfl (by kernel_rfl) (by simp [Value.oneCell']) HO.out hlt (Nat.le_refl _) z39 (fun c hc => by have e := k39_open hc; rw [HY.out] at e; subst e; exact k39_mkM _ _ _ (⟨y.f0, wrap64 (y.f1 + 1)⟩ : S39)) (fun _ h => h.elim) HB.out ?_; intro w9 hr hb hg; have HOn := Lib.hid hr; have HBn := Lib.hid hb; have HVn := Lib.hid ((hg.block gv (blk_lt HV.out) (Kd.R_ne HO.out HV.out (by decide))).trans HV.out); have HS19n := Lib.hid (Kd.R_over HS19.out HO.out (by decide) hg); clear hr hb hg))
            go_roundg (n18 - (i + 1))
            case measure => omega
            case rel => exact ⟨i + 1, _, by omega, by omega, by go_num, HOn, HVn, HBn, HS19n⟩
          · have hin : n18 = i := by omega
            subst hin
            have hcv := blk_cellk HV.out 19 (v := .slice Q19 n19 q19) rfl
            go_wp2_with (fail)
            clear hcv
            go_loopg [7] n19 (fun gg vj wq => ∃ (i : Nat) (xs : List S41), i ≤ n19 ∧ n19 - i ≤ gg ∧ vj = .int .i64 i ∧ Hid (Kd.R k41 41 wq wB.heap.size (fun _ => True) (.slice Q19 n19 q19) xs) ∧ Hid (wq.heap[gv]? = some (.cells (cfgC x (.slice Q0 n0 q0) (.slice Q18 n18 q18) (.slice Q19 n19 q19)) 27 (0, 0))) ∧ Hid (Below wB.heap.size wB wq))
            case atStart => exact ⟨0, x.f19, Nat.zero_le _, by omega, rfl, HS19, HV, HB⟩
            case round =>
              clear HV HB HS19
              obtain ⟨i, xs, hi, hgi, rfl, HO, HV, HB⟩ := hrel
              have hcv := blk_cellk HV.out 19 (v := .slice Q19 n19 q19) rfl
              by_cases hlt : i < n19
              · have hltz : (i : Int) < (n19 : Int) := by omega
                have w1e : IntKind.i64.wrap ((i : Int) + 1) = (i : Int) + 1 := by rw [IntKind.wrap_i64]; have := HLE.out; omega
                have hxl : n19 = xs.length := (Kd.R_reads' HO.out).1
                obtain ⟨g, cap, hf, _⟩ := Kd.R_form HO.out (by omega)
                injection hf with hA hB2 hC2
                subst hA
                clear hB2 hC2 hxl
                obtain ⟨y, hy⟩ : ∃ y, xs.getD i z41 = y := ⟨_, rfl⟩
                obtain ⟨c, hcl, hck, hcc, hcf⟩ := Kd.R_elem HO.out z41 (i : Int) (by omega) (by omega)
                rw [Int.toNat_natCast] at hck hcc hcf
                have he := k41_open (Kd.K_of_M _ hck)
                rw [hy] at he
                subst he
                have hcr := hcc 2 _ rfl
                have hcell : wr.cell? ⟨g, i * 3 + 2, none⟩ = some (.int .i64 y.f2) := hcr
                have HY := Lib.hid hy
                clear hcl hck hcc hcf hcr hy
                go_wp2_with (first
                  | ((with_reducible refine gate_storeT 2 rfl ?_); refine storeE k41 (w0 := wB) wB.heap.size rfl rfl 2 (.tmp 62) (.tmp 60) rfl 41 (i := i) 2 xs ⟨y.f0, y.f1, wrap64 (y.f2 + 1)⟩ _ [.int .i64 (wrap64 (y.f2 + 1))] (fun _ => True) (fun _ => False) rfl rfl rfl (by kernel_rfl) (by simp [Value.oneCell']) HO.out hlt (Nat.le_refl _) z41 (fun c hc => by have e := k41_open hc; rw [HY.out] at e; subst e; exact k41_mkM _ _ _ (⟨y.f0, y.f1, wrap64 (y.f2 + 1)⟩ : S41)) (fun _ h => h.elim) HB.out ?_; intro w9 hr hb hg; have HOn := Lib.hid hr; have HBn := Lib.hid hb; have HVn := Lib.hid ((hg.block gv (blk_lt HV.out) (Kd.R_ne HO.out HV.out (by decide))).trans HV.out); clear hr hb hg))
                go_roundg (n19 - (i + 1))
                case measure => omega
                case rel => exact ⟨i + 1, _, by omega, by omega, by go_num, HOn, HVn, HBn⟩
              · have hin : n19 = i := by omega
                subst hin
                have HG9 := Lib.hid (blk_call HB.out HG4.out)
                have HU9 := Lib.hid (blk_call HB.out HU4.out)
                have KSn := Lib.hid (KS.out _ HB.out)
                go_wp2_with (first
                  | ((with_reducible refine gate_load 27 rfl ?_); refine wpList_load_row rfl 27 _ rfl _ rfl 27 _ _ _ HU9.out Try.underlying27 rfl (by kernel_rfl) ?_)
                  | ((with_reducible refine gate_load 27 rfl ?_); refine wpList_load_row rfl 27 _ rfl _ rfl 27 _ _ _ HG9.out Try.underlying27 rfl (by kernel_rfl) ?_)
                  | (go_at_call 16; refine KSn.out.mono ?_; rintro e wz ⟨rfl, hb⟩; have HBz := Lib.hid (below_step HB4.out (below_step HB.out hb)); clear hb)
                  | (go_at_call 11; refine (lives_calls _).mono ?_; rintro e wy ⟨rfl, hb⟩; have HBy := Lib.hid (below_step HBz.out hb); clear hb))
                go_ret
                exact ⟨rfl, HBy.out⟩
theorem confFresh_walk {x : S27} {cs : Array Value} (w : World) (hk : k27.K w x cs.toList) (_ : True) : Calls Try.prog 3 #[.agg cs] w fun e w' => e = .returned (.bool true) ∧ Below w.heap.size w w' := by
  obtain ⟨A0, c0, A18, c18, A19, c19, he, k0, h0, k18, h18, k19, h19⟩ := k27_open hk
  have e2 : cs = (cfgC x (.slice A0 x.f0.length c0) (.slice A18 x.f18.length c18) (.slice A19 x.f19.length c19)) := by
    apply Array.toList_inj.1
    rw [he]
    rfl
  rw [e2]
  exact fresh_calls x A0 A18 A19 c0 c18 c19 w h0 h18 h19 k0 k18 k19
end Go.Proofs.Ytgiokbhedblkfaa.C
/- For every input the law ConfFresh answers true, and leaves what it is handed as it was: the statement ConfFreshSaid. No condition. -/
namespace Go.Proofs.Ytgiokbhedblkfaa.confFresh
open Go.ChangeShapes Go.WideShapes Go.ChangeAt Go.RowKit Go.Proofs.Ytgiokbhedblkfaa.H
open Go.ChangeMaps (open_string shut_string)
set_option linter.unusedVariables false
theorem own : ownKnob Try.prog.godebug = none := by kernel_rfl
theorem laidOut : laidOutB Try.prog = true := by kernel_rfl
set_option maxRecDepth 100000 in
theorem lifted (os : Os) (started : os.Started) (H : Type) (enc : TypeId × Value → H) :
    ReturnsInHanded {} Try.checked os 3 .any (Rows.confFreshSpec.pre6 enc Try.prog Try.f3 Rows.confFreshRow.domain false) (Rows.confFreshSpec.post enc Try.prog Try.f3 false true false false) := by
  refine returnsInHanded_of_change_sized (C := Try.checked) own started (by kernel_rfl) Try.func3
    (ChangeSpec.witness6 (enc := enc) (C := Try.checked) false ⟨#[], #[(.agg #[.slice none 0 0, .int .u8 0, .int .i64 0, .bool false, .int .i64 0, .int .i64 0, .int .i64 0, .int .i64 0, .int .i64 0, .int .i64 0, .int .u64 0, .int .u64 0, .int .u64 0, .int .u64 0, .int .u64 0, .int .u64 0, .bool false, .int .i64 0, .slice none 0 0, .slice none 0 0])], []⟩ 8 (by kernel_rfl) (by kernel_rfl) (by kernel_rfl) (by kernel_rfl)) ?_
  intro W base args ds gs before hval0 hW hcnd hsz0 _
  have hsz : (DataW.weightsEach Try.prog (Try.f3.params.toList ++ Rows.confFreshSpec.plain.varTypes Try.prog) (ds ++ gs)).all (· ≤ reachBytes) = true := hsz0
  have hval : ∀ (j : Nat) t v, Try.f3.params[j]? = some t → args[j]? = some v → Value.okWide Try.prog W .any base t v := hval0
  have hW' := hW
  obtain ⟨p, q, hA0, hV, rfl, hfz, hnd⟩ := hW
  have hA : DataW.TrodAll enc Try.prog W 0 (fun _ => true) true Try.f3.params.toList args.toList ds p := hA0
  rw [Try.params3] at hA hval hsz
  obtain ⟨v0, vs0, d0, ds0, p0, q0, hargs, rfl, rfl, h0, r0⟩ := trodAll_cons hA
  obtain ⟨rfl, rfl, rfl⟩ := trodAll_nil r0
  obtain rfl : args = #[v0] := by cases args; simp_all
  obtain ⟨rfl, rfl⟩ := trodVars_none hV
  have k0 := h0
  have lt0 : ∀ x ∈ p0, x.block < W.heap.size := by obtain ⟨m, hm⟩ := k0; exact DataW.trod_lt m _ _ _ hm
  obtain ⟨cs0, rfl, hsz0⟩ := okWide_struct Try.underlying27 (hval 0 27 v0 rfl rfl)
  obtain ⟨fu0, hf0⟩ := h0
  obtain ⟨a0, hk0, w0⟩ := (oT27).read hf0 (weights_at hsz (j := 0) (t := 27) rfl rfl)
  clear hA0 hval0 hsz0 hsz
  refine (C.confFresh_walk  W hk0 w0).mono fun e W' ⟨he, bel⟩ => ?_
  subst he
  exact ⟨_, rfl, _, _, _, [], _, [], hW', trodAll_mk1 (shut_bool Try.underlying4 _), (trodAll_cons_mk (Below.trod laidOut (by kernel_rfl) (of_decide_eq_true (by kernel_rfl)) k0 bel lt0) trodAll_mk0), rfl, bel.frame _, fun h => by cases h⟩
theorem over : Rows.confFreshRow.holds Try.pinned (OpenSpec.ofChange Rows.confFreshSpec) :=
  OpenClaim.holds_of_wide 3 Try.f3 rfl rfl rfl rfl rfl rfl rfl ⟨rfl, rfl, rfl, rfl, rfl⟩ rfl rfl rfl rfl rfl (by kernel_rfl) Try.func3 (by kernel_rfl)
    (of_decide_eq_true (by kernel_rfl)) (by unfold Func.isWrapper; first | (rw [if_pos (by decide +kernel)]; kernel_rfl) | (rw [if_neg (by decide +kernel)]; exact ⟨rfl, rfl⟩))
    (fun os started H enc _ => lifted os started H enc)
theorem proved : Rows.ConfFreshSaid := over
#print axioms proved
end Go.Proofs.Ytgiokbhedblkfaa.confFresh
namespace Go.Proofs.Ytgiokbhedblkfaa
theorem confFresh_holds : Rows.ConfFreshSaid := confFresh.proved
end Go.Proofs.Ytgiokbhedblkfaa
