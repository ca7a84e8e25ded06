/- The contracts of package ledger, but for May, Ask, Requests. -/
import Derived.Test.YtaoflcmjmhfblaaGSlOpen
import Derived.Test.YtaoflcmjmhfblaaQ3
namespace Go.Proofs.Ytaoflcmjmhfblaa.Q
open Go.RowKit Go.Proofs.YtaoflcmjmhfblaaW.PrintWords Go.Proofs.YtaoflcmjmhfblaaW.PrintLast Go.Proofs.YtaoflcmjmhfblaaW.PrintMore Go.Proofs.Ytaoflcmjmhfblaa.H Go.Shelf
set_option linter.unusedVariables false
set_option linter.unusedSimpArgs false
abbrev OpenS := S61
def isTok (tok : Int) (x : OpenS) : Bool := x.f0.f1 == tok
set_option maxHeartbeats 1000000 in
theorem find1_calls (x : OpenS) (gb : Nat) (tok : Int) (w : World) (hc : w.cell? ⟨gb, 0, none⟩ = some (.int .u64 tok)) :
    Calls Try.prog 84 #[vOpen x, .pointer (some ⟨gb, 0, none⟩)] w fun e w' => e = .returned (.bool (isTok tok x)) ∧ Below w.heap.size w w' := by
  have hlt := World.block_lt_of_cell? w _ hc
  simp only at hlt
  simp only [vOpen, isTok]
  go_enter Try.func84, Try.ntmps84
  go_wp2_with (fail)
  go_ret
  exact ⟨rfl, (Below.refl _ _).alloc (Nat.le_refl _) _⟩
set_option maxHeartbeats 1000000 in
theorem close1_calls (x : OpenS) (gb : Nat) (tok : Int) (w : World) (hc : w.cell? ⟨gb, 0, none⟩ = some (.int .u64 tok)) :
    Calls Try.prog 86 #[vOpen x, .pointer (some ⟨gb, 0, none⟩)] w fun e w' => e = .returned (.bool (isTok tok x)) ∧ Below w.heap.size w w' := by
  have hlt := World.block_lt_of_cell? w _ hc
  simp only at hlt
  simp only [vOpen, isTok]
  go_enter Try.func86, Try.ntmps86
  go_wp2_with (fail)
  go_ret
  exact ⟨rfl, (Below.refl _ _).alloc (Nat.le_refl _) _⟩
def ledger_Find.f (l0 : List OpenS) (a1 : Int) : Option (Int × Int × Int × Bool × Int × Int × Int × Bool × Int × Bool) :=
  match l0.find? (isTok a1) with
  | some x => some (x.f0.f0, x.f0.f1, x.f0.f2, x.f0.f3, x.f0.f4, x.f1, x.f2, x.f3, x.f4, true)
  | none => some (0, 0, 0, false, 0, 0, 0, false, 0, false)
set_option maxHeartbeats 2000000 in
set_option maxRecDepth 100000 in
theorem ledger_Find.calls (A0 : Option Addr) (c0 : Nat) (l0 : List OpenS) (a1 : Int) (r1 : Int) (r2 : Int) (r3 : Int) (r4 : Bool) (r5 : Int) (r6 : Int) (r7 : Int) (r8 : Bool) (r9 : Int) (r10 : Bool) (w : World) (hr0 : Kd.C k61 w A0 l0.length l0) (hc0 : l0.length ≤ c0) (h : ledger_Find.f l0 a1 = some (r1, r2, r3, r4, r5, r6, r7, r8, r9, r10)) :
    Calls Try.prog 26 #[.slice A0 l0.length c0, .int .u64 a1] w fun e w' => e = .returned (.tuple #[.agg #[.int .u8 r1, .int .u64 r2, .int .i64 r3, .bool r4, .int .u64 r5, .int .u64 r6, .int .i64 r7, .bool r8, .int .u32 r9], .bool r10]) ∧ Below w.heap.size w w' := by
  have hbel : Below w.heap.size w ((w.alloc (.cells #[.int .u64 a1] 31 (0, 0))).alloc (.cells #[.int .u8 0, .int .u64 0, .int .i64 0, .bool false, .int .u64 0, .int .u64 0, .int .i64 0, .bool false, .int .u32 0] 61 (0, 0))) := ((Below.refl _ _).alloc (Nat.le_refl _) _).alloc (by simp) _
  have hcap : ((w.alloc (.cells #[.int .u64 a1] 31 (0, 0))).alloc (.cells #[.int .u8 0, .int .u64 0, .int .i64 0, .bool false, .int .u64 0, .int .u64 0, .int .i64 0, .bool false, .int .u32 0] 61 (0, 0))).cell? ⟨w.heap.size, 0, none⟩ = some (.int .u64 a1) :=
    cap_later (new_cell w _ _) ((Below.refl _ _).alloc (Nat.le_refl _) _)
  have hp : PredW Try.prog 84 #[.pointer (some ⟨w.heap.size, 0, none⟩)] vOpen (isTok a1) ((w.alloc (.cells #[.int .u64 a1] 31 (0, 0))).alloc (.cells #[.int .u8 0, .int .u64 0, .int .i64 0, .bool false, .int .u64 0, .int .u64 0, .int .i64 0, .bool false, .int .u32 0] 61 (0, 0))) :=
    fun W x hb => find1_calls x _ _ W (cap_later hcap hb)
  have K := Lib.hid (idxOpen _ _ (fun args w => by kernel_rfl) (isTok a1) A0 c0 l0 _ (Kd.C_below hr0 hbel) hp)
  have hm := Kd.C_max hr0
  have HBE := Lib.hid hbel
  have HR := Lib.hid hr0
  unfold ledger_Find.f at h
  have hbx : ∀ W, Below ((w.alloc (.cells #[.int .u64 a1] 31 (0, 0))).alloc (.cells #[.int .u8 0, .int .u64 0, .int .i64 0, .bool false, .int .u64 0, .int .u64 0, .int .i64 0, .bool false, .int .u32 0] 61 (0, 0))).heap.size ((w.alloc (.cells #[.int .u64 a1] 31 (0, 0))).alloc (.cells #[.int .u8 0, .int .u64 0, .int .i64 0, .bool false, .int .u64 0, .int .u64 0, .int .i64 0, .bool false, .int .u32 0] 61 (0, 0))) W → W.heap[w.heap.size + 1]? = some (.cells #[.int .u8 0, .int .u64 0, .int .i64 0, .bool false, .int .u64 0, .int .u64 0, .int .i64 0, .bool false, .int .u32 0] 61 (0, 0)) :=
    fun W hb => (hb.block _ (by simp)).trans (by have h1 := heap_alloc_new (w.alloc (.cells #[.int .u64 a1] 31 (0, 0))) (.cells #[.int .u8 0, .int .u64 0, .int .i64 0, .bool false, .int .u64 0, .int .u64 0, .int .i64 0, .bool false, .int .u32 0] 61 (0, 0)); rwa [World.size_alloc] at h1)
  have HBX := Lib.hid hbx
  clear hbx
  rcases find_idx (isTok a1) l0 with ⟨e1, e2⟩ | ⟨i, x, hi, hx, e1, e2⟩
  · rw [e1] at h
    rw [e2] at K
    simp only [Option.some.injEq, Prod.mk.injEq] at h
    obtain ⟨rfl, rfl, rfl, rfl, rfl, rfl, rfl, rfl, rfl, rfl⟩ := h
    clear hbel hcap hp hr0 e1 e2
    go_enter Try.func26, Try.ntmps26
    go_wp2_with (first
      | (go_at_call 83; refine K.out.mono ?_; rintro e w1 ⟨rfl, hb⟩; have HB1 := Lib.hid hb; clear hb)
      | ((with_reducible refine gate_storeT 61 rfl ?_); refine wpList_store_row rfl 61 _ _ rfl _ _ rfl rfl 61 _ (HBX.out _ HB1.out) (by kernel_rfl) rfl (by simp [Value.oneCell']) ?_))
    exact bodyPost_ret (res_cell_tmp rfl rfl (run_loadVar_box 61 _ 61 _ _ _ (setRow_heap _ _ _ _ _ _ (HBX.out _ HB1.out)) Try.underlying61 rfl (by kernel_rfl))) rfl ⟨rfl, below_setRow (below_step HBE.out HB1.out) (by omega) _⟩
  · rw [e1] at h
    rw [e2] at K
    simp only [Option.some.injEq, Prod.mk.injEq] at h
    obtain ⟨rfl, rfl, rfl, rfl, rfl, rfl, rfl, rfl, rfl, rfl⟩ := h
    obtain ⟨n, hn⟩ : ∃ n, l0.length = n := ⟨_, rfl⟩
    rw [hn] at K HR hi hm ⊢
    have hgd : l0.getD i z61 = x := by rw [List.getD_eq_getElem?_getD, hx]; rfl
    have HGD := Lib.hid hgd
    have HN := Lib.hid hn
    have hA : ∃ ad, A0 = some ad := by obtain ⟨ad, e, _⟩ := loadOpen HR.out i hi; exact ⟨ad, e⟩
    obtain ⟨ad, rfl⟩ := hA
    have hcc : ∀ W, Below w.heap.size w W → ∀ j v, (#[.int .u8 x.f0.f0, .int .u64 x.f0.f1, .int .i64 x.f0.f2, .bool x.f0.f3, .int .u64 x.f0.f4, .int .u64 x.f1, .int .i64 x.f2, .bool x.f3, .int .u32 x.f4] : Array Value).toList[j]? = some v → W.cell? ((ad.add (i * 9)).add j) = some v := by
      intro W hW
      obtain ⟨ad', e, hc⟩ := loadOpen (Kd.C_below HR.out hW) i hi
      cases e
      rw [HGD.out] at hc
      exact hc
    have HC0 := Lib.hid hcc
    have hneg : ((i : Int) < 0) = False := by simp
    clear hbel hcap hp hr0 e1 e2 hn hx hgd hcc hc0
    go_enter Try.func26, Try.ntmps26
    go_wp2_with (first
      | (go_at_call 83; refine K.out.mono ?_; rintro e w1 ⟨rfl, hb⟩; have HB1 := Lib.hid hb; have HCC := Lib.hid (HC0.out _ (below_step HBE.out hb)); clear hb)
      | ((with_reducible refine gate_load 61 rfl ?_); refine wpList_load_any rfl 61 _ rfl _ rfl _ _ HCC.out Try.underlying61 rfl (by kernel_rfl) ?_)
      | ((with_reducible refine gate_storeT 61 rfl ?_); refine wpList_store_row rfl 61 _ _ rfl _ _ rfl rfl 61 _ (HBX.out _ HB1.out) (by kernel_rfl) rfl (by simp [Value.oneCell']) ?_))
    exact bodyPost_ret (res_cell_tmp rfl rfl (run_loadVar_box 61 _ 61 _ _ _ (setRow_heap _ _ _ _ _ _ (HBX.out _ HB1.out)) Try.underlying61 rfl (by kernel_rfl))) rfl ⟨rfl, below_setRow (below_step HBE.out HB1.out) (by omega) _⟩
/-- without(l, is): the elements of which it does not hold, in memory of its own. -/
theorem without_calls (g : Nat) (cap : Array Value) (eg : ∀ args w, (callFunc g args).run Try.prog w = .ok (.enter g args) w) (p : OpenS → Bool) (A : Option Addr) (c : Nat) (l : List OpenS) (w : World) (h : Kd.C k61 w A l.length l) (hl : l.length * 64 ≤ 140737488355328) (hp : PredW Try.prog g cap vOpen p w) :
    Calls Try.prog 85 #[.slice A l.length c, .func (.func g) #[] cap] w fun e w' => ∃ v0_ : Value, e = .returned v0_ ∧ Kd.R k61 61 w' w.heap.size (fun _ => True) v0_ (l.filter (fun x => !p x)) ∧ Below w.heap.size w w' := by
  have K1 := Lib.hid (cloneOpen A c l w h hl)
  have K2 := Lib.hid (fun W v (ho : Kd.R k61 61 W w.heap.size (fun _ => True) v l) (hB : Below w.heap.size w W) => delOpen g cap eg p l w W v ho hB hp)
  clear h hl hp
  go_enter Try.func85, Try.ntmps85
  go_wp2_with (first
    | (go_at_call 82; refine K1.out.mono ?_; rintro e w1 ⟨v1, rfl, ho1, hb1⟩; have HO1 := Lib.hid ho1; have HB1 := Lib.hid hb1; clear ho1 hb1)
    | (go_at_call 146; refine (K2.out _ _ HO1.out HB1.out).mono ?_; rintro e w2 ⟨v2, rfl, ho2, hb2⟩; have HO2 := Lib.hid ho2; have HB2 := Lib.hid hb2; clear ho2 hb2))
  go_ret
  exact ⟨_, rfl, HO2.out, HB2.out⟩
def ledger_Close.f (l0 : List OpenS) (a1 : Int) : Option (List OpenS × Int) :=
  if l0.length * 64 ≤ 140737488355328 then (if l0.any (isTok a1) then some (l0.filter (fun x => !isTok a1 x), 0) else some ([], 7)) else none
theorem find_any {α : Type} (p : α → Bool) (l : List α) : (l.any p = true ∧ ∃ x, l.find? p = some x) ∨ (l.any p = false ∧ l.find? p = none) := by
  cases h : l.find? p with
  | none =>
    right
    refine ⟨?_, rfl⟩
    rw [List.find?_eq_none] at h
    rw [List.any_eq_false]
    exact h
  | some x =>
    left
    exact ⟨List.any_eq_true.2 ⟨x, List.mem_of_find?_eq_some h, List.find?_some h⟩, x, rfl⟩
set_option maxHeartbeats 2000000 in
set_option maxRecDepth 100000 in
theorem ledger_Close.calls (A0 : Option Addr) (c0 : Nat) (l0 : List OpenS) (a1 : Int) (r1 : List OpenS) (r2 : Int) (w : World) (hr0 : Kd.C k61 w A0 l0.length l0) (hc0 : l0.length ≤ c0) (h : ledger_Close.f l0 a1 = some (r1, r2)) :
    Calls Try.prog 27 #[.slice A0 l0.length c0, .int .u64 a1] w fun e w' => ∃ v0_ : Value, e = .returned (.tuple #[v0_, .int .i64 r2]) ∧ Kd.R k61 61 w' w.heap.size (fun _ => True) v0_ r1 ∧ Below w.heap.size w w' := by
  unfold ledger_Close.f at h
  have hsz : l0.length * 64 ≤ 140737488355328 := by
    by_cases hq : l0.length * 64 ≤ 140737488355328
    · exact hq
    · rw [if_neg hq] at h; cases h
  rw [if_pos hsz] at h
  have hb0 : Below w.heap.size w (w.alloc (.cells #[.int .u64 a1] 31 (0, 0))) := (Below.refl _ _).alloc (Nat.le_refl _) _
  have hcap : (w.alloc (.cells #[.int .u64 a1] 31 (0, 0))).cell? ⟨w.heap.size, 0, none⟩ = some (.int .u64 a1) := new_cell w _ _
  have hp : PredW Try.prog 86 #[.pointer (some ⟨w.heap.size, 0, none⟩)] vOpen (isTok a1) (w.alloc (.cells #[.int .u64 a1] 31 (0, 0))) :=
    fun W x hb => close1_calls x _ _ W (cap_later hcap hb)
  rcases find_any (isTok a1) l0 with ⟨e1, x, e2⟩ | ⟨e1, e2⟩
  · rw [e1] at h
    simp only [if_true, Option.some.injEq, Prod.mk.injEq] at h
    obtain ⟨rfl, rfl⟩ := h
    have K1 := Lib.hid (ledger_Find.calls A0 c0 l0 a1 _ _ _ _ _ _ _ _ _ _ _ (Kd.C_below hr0 hb0) hc0 (by unfold ledger_Find.f; rw [e2]))
    have K2 := Lib.hid (fun W (hW : Below (w.alloc (.cells #[.int .u64 a1] 31 (0, 0))).heap.size (w.alloc (.cells #[.int .u64 a1] 31 (0, 0))) W) => without_calls 86 #[.pointer (some ⟨w.heap.size, 0, none⟩)] (fun args w => by kernel_rfl) (isTok a1) A0 c0 l0 W (Kd.C_below hr0 (below_step hb0 hW)) hsz (hp.later hW))
    have HB0 := Lib.hid hb0
    have HCAP := Lib.hid hcap
    clear hr0 hc0 hsz hb0 hcap hp e1 e2
    go_enter Try.func27, Try.ntmps27
    go_wp2_with (first
      | (go_at_call 26; refine K1.out.mono ?_; rintro e w1 ⟨rfl, hb1⟩; have HB1 := Lib.hid hb1; clear hb1)
      | ((with_reducible refine gate_storeT 61 rfl ?_); refine wpList_store_row rfl 61 _ _ rfl _ _ rfl rfl 61 _ (heap_alloc_new _ _) (by kernel_rfl) rfl (by simp [Value.oneCell']) ?_; rw [setRow_alloc])
      | (go_at_call 85; refine (K2.out _ (HB1.out.alloc HB1.out.size _)).mono ?_; rintro e w2 ⟨v2, rfl, ho2, hb2⟩; have HO2 := Lib.hid ho2; have HB2 := Lib.hid hb2; clear ho2 hb2))
    go_ret2
    have hs : w.heap.size ≤ (w1.alloc (.cells #[.int .u8 x.f0.f0, .int .u64 x.f0.f1, .int .i64 x.f0.f2, .bool x.f0.f3, .int .u64 x.f0.f4, .int .u64 x.f1, .int .i64 x.f2, .bool x.f3, .int .u32 x.f4] 61 (0, 0))).heap.size := by have h1 := HB0.out.size; have h2 := HB1.out.size; rw [World.size_alloc]; omega
    exact ⟨_, rfl, Kd.R_lower HO2.out hs, below_step HB0.out (below_step (HB1.out.alloc HB1.out.size _) HB2.out)⟩
  · rw [e1] at h
    simp only [Bool.false_eq_true, if_false, Option.some.injEq, Prod.mk.injEq] at h
    obtain ⟨rfl, rfl⟩ := h
    have K1 := Lib.hid (ledger_Find.calls A0 c0 l0 a1 _ _ _ _ _ _ _ _ _ _ _ (Kd.C_below hr0 hb0) hc0 (by unfold ledger_Find.f; rw [e2]))
    have HB0 := Lib.hid hb0
    have HCAP := Lib.hid hcap
    clear hr0 hc0 hsz hb0 hcap hp e1 e2
    go_enter Try.func27, Try.ntmps27
    go_wp2_with (first
      | (go_at_call 26; refine K1.out.mono ?_; rintro e w1 ⟨rfl, hb1⟩; have HB1 := Lib.hid hb1; clear hb1)
      | ((with_reducible refine gate_storeT 61 rfl ?_); refine wpList_store_row rfl 61 _ _ rfl _ _ rfl rfl 61 _ (heap_alloc_new _ _) (by kernel_rfl) rfl (by simp [Value.oneCell']) ?_; rw [setRow_alloc]))
    go_ret2
    exact ⟨_, rfl, Kd.R_nil _ _ _ _ _, below_step HB0.out (HB1.out.alloc HB1.out.size _)⟩
def isAbout (id : Int) (x : OpenS) : Bool := !(x.f0.f0 == 1) && x.f0.f4 == id
theorem about_f (x : OpenS) (id : Int) : ledger_about.f x.f0.f0 x.f0.f1 x.f0.f2 x.f0.f3 x.f0.f4 x.f1 x.f2 x.f3 x.f4 id = some (isAbout id x) := by
  unfold ledger_about.f ledger_launch.f isAbout
  cases h : (x.f0.f0 == 1) <;> simp
theorem about_calls (x : OpenS) (id : Int) (w : World) : Calls Try.prog 88 #[vOpen x, .int .u64 id] w fun e w' => e = .returned (.bool (isAbout id x)) ∧ Below w.heap.size w w' :=
  ledger_about.calls _ _ _ _ _ _ _ _ _ id _ w (about_f x id)
theorem forget1_calls (x : OpenS) (gb : Nat) (id : Int) (w : World) (hc : w.cell? ⟨gb, 0, none⟩ = some (.int .u64 id)) :
    Calls Try.prog 87 #[vOpen x, .pointer (some ⟨gb, 0, none⟩)] w fun e w' => e = .returned (.bool (isAbout id x)) ∧ Below w.heap.size w w' := by
  have hlt := World.block_lt_of_cell? w _ hc
  simp only at hlt
  have K := Lib.hid (fun W => about_calls x id W)
  have HBX := Lib.hid (heap_alloc_new w (.cells #[.int .u8 x.f0.f0, .int .u64 x.f0.f1, .int .i64 x.f0.f2, .bool x.f0.f3, .int .u64 x.f0.f4, .int .u64 x.f1, .int .i64 x.f2, .bool x.f3, .int .u32 x.f4] 61 (0, 0)))
  obtain ⟨r, hr⟩ : ∃ r, isAbout id x = r := ⟨_, rfl⟩
  rw [hr] at K ⊢
  simp only [vOpen] at K ⊢
  clear hr
  go_enter Try.func87, Try.ntmps87
  go_wp2_with (first | ((with_reducible refine gate_load 61 rfl ?_); refine wpList_load_row rfl 61 _ rfl _ rfl 61 _ _ _ HBX.out Try.underlying61 rfl (by kernel_rfl) ?_) | (go_at_call 88; refine (K.out _).mono ?_; rintro e w1 ⟨rfl, hb1⟩; have HB1 := Lib.hid hb1; clear hb1))
  go_ret
  exact ⟨rfl, below_step ((Below.refl _ _).alloc (Nat.le_refl _) _) HB1.out⟩
theorem about1_calls (x : OpenS) (gb : Nat) (id : Int) (w : World) (hc : w.cell? ⟨gb, 0, none⟩ = some (.int .u64 id)) :
    Calls Try.prog 90 #[vOpen x, .pointer (some ⟨gb, 0, none⟩)] w fun e w' => e = .returned (.bool (isAbout id x)) ∧ Below w.heap.size w w' := by
  have hlt := World.block_lt_of_cell? w _ hc
  simp only at hlt
  have K := Lib.hid (fun W => about_calls x id W)
  have HBX := Lib.hid (heap_alloc_new w (.cells #[.int .u8 x.f0.f0, .int .u64 x.f0.f1, .int .i64 x.f0.f2, .bool x.f0.f3, .int .u64 x.f0.f4, .int .u64 x.f1, .int .i64 x.f2, .bool x.f3, .int .u32 x.f4] 61 (0, 0)))
  obtain ⟨r, hr⟩ : ∃ r, isAbout id x = r := ⟨_, rfl⟩
  rw [hr] at K ⊢
  simp only [vOpen] at K ⊢
  clear hr
  go_enter Try.func90, Try.ntmps90
  go_wp2_with (first | ((with_reducible refine gate_load 61 rfl ?_); refine wpList_load_row rfl 61 _ rfl _ rfl 61 _ _ _ HBX.out Try.underlying61 rfl (by kernel_rfl) ?_) | (go_at_call 88; refine (K.out _).mono ?_; rintro e w1 ⟨rfl, hb1⟩; have HB1 := Lib.hid hb1; clear hb1))
  go_ret
  exact ⟨rfl, below_step ((Below.refl _ _).alloc (Nat.le_refl _) _) HB1.out⟩
def isLate (now span : Int) (x : OpenS) : Bool := decide (x.f1 ≤ now) && decide (span ≤ IntKind.u64.wrap (now - x.f1))
set_option maxHeartbeats 1000000 in
theorem late1_calls (x : OpenS) (gb gc : Nat) (now span : Int) (w : World) (hc : w.cell? ⟨gb, 0, none⟩ = some (.int .u64 now)) (hd : w.cell? ⟨gc, 0, none⟩ = some (.int .u64 span)) :
    Calls Try.prog 140 #[vOpen x, .pointer (some ⟨gb, 0, none⟩), .pointer (some ⟨gc, 0, none⟩)] w fun e w' => e = .returned (.bool (isLate now span x)) ∧ Below w.heap.size w w' := by
  have hlt := World.block_lt_of_cell? w _ hc
  have hlt2 := World.block_lt_of_cell? w _ hd
  simp only at hlt hlt2
  obtain ⟨q, hq⟩ : ∃ q, IntKind.u64.wrap (now - x.f1) = q := ⟨_, rfl⟩
  obtain ⟨r, hr⟩ : ∃ r, isLate now span x = r := ⟨_, rfl⟩
  have HR := Lib.hid (show (decide (x.f1 ≤ now) && decide (span ≤ q)) = r by rw [← hr, ← hq]; rfl)
  rw [hr]
  simp only [vOpen]
  clear hr
  by_cases h1 : x.f1 ≤ now
  · by_cases h2 : span ≤ q
    · go_enter Try.func140, Try.ntmps140
      go_wp2_with (fail)
      all_goals first | (exfalso; omega) | (go_ret; exact ⟨ret_b (by rw [← HR.out, decide_eq_true h1, decide_eq_true h2]; rfl), (Below.refl _ _).alloc (Nat.le_refl _) _⟩)
    · go_enter Try.func140, Try.ntmps140
      go_wp2_with (fail)
      all_goals first | (exfalso; omega) | (go_ret; exact ⟨ret_b (by rw [← HR.out, decide_eq_true h1, decide_eq_false (by omega)]; rfl), (Below.refl _ _).alloc (Nat.le_refl _) _⟩)
  · go_enter Try.func140, Try.ntmps140
    go_wp2_with (fail)
    all_goals first | (exfalso; omega) | (go_ret; exact ⟨ret_b (by rw [← HR.out, decide_eq_false (by omega)]; rfl), (Below.refl _ _).alloc (Nat.le_refl _) _⟩)
theorem infoU64 : (Try.prog.info? 31).map (fun i => (i.zero, i.size, i.bytes)) = some (some (.int .u64 0), 1, 8) := by kernel_rfl
def toksL (p : OpenS → Bool) (l : List OpenS) : List Int := (l.filter p).map (fun x => x.f0.f1)
theorem toksL_take (p : OpenS → Bool) (l : List OpenS) (i : Nat) (y : OpenS) (h : l[i]? = some y) : toksL p (l.take (i + 1)) = toksL p (l.take i) ++ (if p y then [y.f0.f1] else []) := by
  unfold toksL
  rw [List.take_add_one, h, List.filter_append, List.map_append]
  cases hp : p y <;> simp [hp]
theorem toksL_len (p : OpenS → Bool) (l : List OpenS) (i : Nat) : (toksL p (l.take i)).length ≤ i := by
  unfold toksL
  rw [List.length_map]
  exact Nat.le_trans (List.length_filter_le _ _) (List.length_take_le _ _)
set_option maxHeartbeats 4000000 in
set_option maxRecDepth 100000 in
theorem tokens_calls (g : Nat) (cap : Array Value) (eg : ∀ args w, (callFunc g args).run Try.prog w = .ok (.enter g args) w) (p : OpenS → Bool) (A : Option Addr) (c : Nat) (l : List OpenS) (w : World) (h : Kd.C k61 w A l.length l) (hl : l.length * 8 ≤ 140737488355328) (hp : PredW Try.prog g cap vOpen p w) :
    Calls Try.prog 89 #[.slice A l.length c, .func (.func g) #[] cap] w fun e w' => ∃ v0_ : Value, e = .returned v0_ ∧ Kd.R (Kd.int .u64) 31 w' w.heap.size (fun _ => True) v0_ (toksL p l) ∧ Below w.heap.size w w' := by
  have hm := Kd.C_max h
  obtain ⟨n, hn⟩ : ∃ n, l.length = n := ⟨_, rfl⟩
  rw [hn] at h hm hl ⊢
  have H := Lib.hid h
  have HN := Lib.hid hn
  have HP := Lib.hid hp
  have HLL := Lib.hid hl
  clear h hn hp hl
  go_enter Try.func89, Try.ntmps89
  go_wp2
  go_loopw [5, 10] (fun v5 v10 wr => ∃ (i : Nat), i ≤ n ∧ v10 = .int .i64 i ∧ Hid (Kd.R (Kd.int .u64) 31 wr w.heap.size (fun _ => True) v5 (toksL p (l.take i))) ∧ Hid (Below w.heap.size w wr)) (fun _ v10 _ => n - (intOf v10).toNat)
  case atStart => exact ⟨0, Nat.zero_le _, rfl, Lib.hid (Kd.R_nil _ _ _ _ _), Lib.hid (Below.refl _ _)⟩
  case round =>
    rename_i u5 u10
    obtain ⟨i, hi, rfl, HO, HB⟩ := hrel
    by_cases hlt : i < n
    · have hltz : (i : Int) < (n : Int) := by omega
      obtain ⟨ad, ea, hc⟩ := loadOpen (Kd.C_below H.out HB.out) i hlt
      subst ea
      obtain ⟨y, hy⟩ : ∃ y, l.getD i z61 = y := ⟨_, rfl⟩
      rw [hy] at hc
      have hlj : l[i]? = some y := by rw [← hy, List.getD_eq_getElem?_getD, List.getElem?_eq_getElem (by rw [HN.out]; exact hlt)]; rfl
      have HCC := Lib.hid hc
      have HTK := Lib.hid (toksL_take p l i y hlj)
      have w1e : IntKind.i64.wrap ((i : Int) + 1) = (i : Int) + 1 := by rw [IntKind.wrap_i64]; omega
      have hB1 := HB.out.alloc HB.out.size (.cells #[.int .u8 y.f0.f0, .int .u64 y.f0.f1, .int .i64 y.f0.f2, .bool y.f0.f3, .int .u64 y.f0.f4, .int .u64 y.f1, .int .i64 y.f2, .bool y.f3, .int .u32 y.f4] 61 (0, 0))
      have hcall := HP.out _ y hB1
      have HRO := Lib.hid (Kd.R_alloc HO.out (.cells #[.int .u8 y.f0.f0, .int .u64 y.f0.f1, .int .i64 y.f0.f2, .bool y.f0.f3, .int .u64 y.f0.f4, .int .u64 y.f1, .int .i64 y.f2, .bool y.f3, .int .u32 y.f4] 61 (0, 0)))
      have HB2 := Lib.hid hB1
      have HBX := Lib.hid (heap_alloc_new wr (.cells #[.int .u8 y.f0.f0, .int .u64 y.f0.f1, .int .i64 y.f0.f2, .bool y.f0.f3, .int .u64 y.f0.f4, .int .u64 y.f1, .int .i64 y.f2, .bool y.f3, .int .u32 y.f4] 61 (0, 0)))
      simp only [vOpen] at hcall
      clear hc hy hlj hB1
      obtain ⟨b, hb⟩ : ∃ b, p y = b := ⟨_, rfl⟩
      rw [hb] at hcall HTK
      have HK := Lib.hid hcall
      clear hb hcall
      cases b with
      | false =>
        go_wp2_with (first
          | ((with_reducible refine gate_load 61 rfl ?_); refine wpList_load_any rfl 61 _ rfl _ rfl _ _ HCC.out Try.underlying61 rfl (by kernel_rfl) ?_)
          | ((with_reducible refine gate_storeT 61 rfl ?_); refine wpList_store_row rfl 61 _ _ rfl _ _ rfl rfl 61 _ (heap_alloc_new _ _) (by kernel_rfl) rfl (by simp [Value.oneCell']) ?_; rw [setRow_alloc])
          | ((with_reducible refine gate_load 61 rfl ?_); refine wpList_load_row rfl 61 _ rfl _ rfl 61 _ _ _ HBX.out Try.underlying61 rfl (by kernel_rfl) ?_)
          | (go_at_fn g; refine HK.out.mono ?_; rintro e w2 ⟨rfl, hb'⟩; have HB3 := Lib.hid hb'; clear hb'))
        exact ⟨⟨i + 1, by omega, by go_num, Lib.hid (by rw [HTK.out]; simp only [Bool.false_eq_true, if_false, List.append_nil]; exact Kd.R_below HRO.out HB3.out), Lib.hid (below_step HB2.out HB3.out)⟩, by simp only [intOf]; omega⟩
      | true =>
        obtain ⟨Y, hY⟩ : ∃ Y, toksL p (l.take i) = Y := ⟨_, rfl⟩
        have hlen := toksL_len p l i
        rw [hY] at HRO HTK hlen
        have HLN := Lib.hid (show (Y.length + 1) * 8 ≤ 140737488355328 by have := HLL.out; omega)
        clear hY hlen
        go_wp2_with (first
          | ((with_reducible refine gate_load 61 rfl ?_); refine wpList_load_any rfl 61 _ rfl _ rfl _ _ HCC.out Try.underlying61 rfl (by kernel_rfl) ?_)
          | ((with_reducible refine gate_storeT 61 rfl ?_); refine wpList_store_row rfl 61 _ _ rfl _ _ rfl rfl 61 _ (heap_alloc_new _ _) (by kernel_rfl) rfl (by simp [Value.oneCell']) ?_; rw [setRow_alloc])
          | ((with_reducible refine gate_load 61 rfl ?_); refine wpList_load_row rfl 61 _ rfl _ rfl 61 _ _ _ HBX.out Try.underlying61 rfl (by kernel_rfl) ?_)
          | (go_at_fn g; refine HK.out.mono ?_; rintro e w2 ⟨rfl, hb'⟩; have HB3 := Lib.hid hb'; have hcx : w2.cell? ⟨wr.heap.size, 1, none⟩ = some (.int .u64 y.f0.f1) := (by have h1 := (hb'.block _ (by simp)).trans HBX.out; simp [World.cell?, h1]); have HR3 := Lib.hid (Kd.R_below HRO.out HB3.out); have HB4 := Lib.hid (below_step HB2.out HB3.out); clear hb')
          | ((with_reducible refine gate_builtin (b := .append) (xs := #[.tmp 17, .tmp 21]) rfl ?_); at_builtin; refine Kd.R_append (Kd.int .u64) (w0 := w) w.heap.size rfl (.tmp 17) (.tmp 21) 71 31 (.int .u64 0) 8 rfl Try.underlying71 infoU64 rfl (by decide) (by decide) u5 Y _ [.int .u64 _] (fun _ => True) (fun _ => False) rfl rfl rfl (fun _ hk => hk.elim) (fun _ _ => trivial) HR3.out HB4.out HB4.out.size HLN.out ?_; intro v1 w3 ho hb hg hat; have HO5 := Lib.hid ho; have HB5 := Lib.hid hb; clear ho hb hg hat))
        exact ⟨⟨i + 1, by omega, by go_num, Lib.hid (by rw [HTK.out]; simp only [if_true]; exact HO5.out), HB5⟩, by simp only [intOf]; omega⟩
    · have : i = n := by omega
      subst this
      go_wp2
      go_ret
      have h1 := HO.out
      rw [List.take_of_length_le (by rw [HN.out]; omega)] at h1
      exact ⟨_, rfl, h1, HB.out⟩
def ledger_About.f (l0 : List OpenS) (a1 : Int) : Option (List Int) := if l0.length * 8 ≤ 140737488355328 then some (toksL (isAbout a1) l0) else none
set_option maxHeartbeats 1000000 in
theorem ledger_About.calls (A0 : Option Addr) (c0 : Nat) (l0 : List OpenS) (a1 : Int) (r : List Int) (w : World) (hr0 : Kd.C k61 w A0 l0.length l0) (hc0 : l0.length ≤ c0) (h : ledger_About.f l0 a1 = some r) :
    Calls Try.prog 29 #[.slice A0 l0.length c0, .int .u64 a1] w fun e w' => ∃ v0_ : Value, e = .returned (v0_) ∧ Kd.R (Kd.int .u64) 31 w' w.heap.size (fun _ => True) v0_ r ∧ Below w.heap.size w w' := by
  unfold ledger_About.f at h
  by_cases hsz : l0.length * 8 ≤ 140737488355328
  case neg => rw [if_neg hsz] at h; cases h
  rw [if_pos hsz] at h
  obtain rfl := Option.some.inj h
  have hb0 : Below w.heap.size w (w.alloc (.cells #[.int .u64 a1] 31 (0, 0))) := (Below.refl _ _).alloc (Nat.le_refl _) _
  have hcap : (w.alloc (.cells #[.int .u64 a1] 31 (0, 0))).cell? ⟨w.heap.size, 0, none⟩ = some (.int .u64 a1) := new_cell w _ _
  have hp : PredW Try.prog 90 #[.pointer (some ⟨w.heap.size, 0, none⟩)] vOpen (isAbout a1) (w.alloc (.cells #[.int .u64 a1] 31 (0, 0))) :=
    fun W x hb => about1_calls x _ _ W (cap_later hcap hb)
  have K := Lib.hid (tokens_calls _ _ (fun args w => by kernel_rfl) (isAbout a1) A0 c0 l0 _ (Kd.C_below hr0 hb0) hsz hp)
  obtain ⟨R, hR⟩ : ∃ R, toksL (isAbout a1) l0 = R := ⟨_, rfl⟩
  rw [hR] at K ⊢
  have HB0 := Lib.hid hb0
  clear hr0 hsz hb0 hcap hp h hR
  go_enter Try.func29, Try.ntmps29
  go_wp2_with (first | (go_at_call 89; refine K.out.mono ?_; rintro e w2 ⟨v2, rfl, ho2, hb2⟩; have HO2 := Lib.hid ho2; have HB2 := Lib.hid hb2; clear ho2 hb2))
  go_ret
  exact ⟨_, rfl, Kd.R_lower HO2.out HB0.out.size, below_step HB0.out HB2.out⟩
def ledger_Late.f (l0 : List OpenS) (a1 : Int) (a2 : Int) : Option (List Int) := if l0.length * 8 ≤ 140737488355328 then some (toksL (isLate a1 a2) l0) else none
set_option maxHeartbeats 1000000 in
theorem ledger_Late.calls (A0 : Option Addr) (c0 : Nat) (l0 : List OpenS) (a1 : Int) (a2 : Int) (r : List Int) (w : World) (hr0 : Kd.C k61 w A0 l0.length l0) (hc0 : l0.length ≤ c0) (h : ledger_Late.f l0 a1 a2 = some r) :
    Calls Try.prog 62 #[.slice A0 l0.length c0, .int .u64 a1, .int .u64 a2] w fun e w' => ∃ v0_ : Value, e = .returned (v0_) ∧ Kd.R (Kd.int .u64) 31 w' w.heap.size (fun _ => True) v0_ r ∧ Below w.heap.size w w' := by
  unfold ledger_Late.f at h
  by_cases hsz : l0.length * 8 ≤ 140737488355328
  case neg => rw [if_neg hsz] at h; cases h
  rw [if_pos hsz] at h
  obtain rfl := Option.some.inj h
  have hb1 : Below w.heap.size w (w.alloc (.cells #[.int .u64 a1] 31 (0, 0))) := (Below.refl _ _).alloc (Nat.le_refl _) _
  have hb0 : Below w.heap.size w ((w.alloc (.cells #[.int .u64 a1] 31 (0, 0))).alloc (.cells #[.int .u64 a2] 31 (0, 0))) := hb1.alloc (by simp) _
  have hcap : ((w.alloc (.cells #[.int .u64 a1] 31 (0, 0))).alloc (.cells #[.int .u64 a2] 31 (0, 0))).cell? ⟨w.heap.size, 0, none⟩ = some (.int .u64 a1) := cap_later (new_cell w _ _) ((Below.refl _ _).alloc (Nat.le_refl _) _)
  have hcap2 : ((w.alloc (.cells #[.int .u64 a1] 31 (0, 0))).alloc (.cells #[.int .u64 a2] 31 (0, 0))).cell? ⟨w.heap.size + 1, 0, none⟩ = some (.int .u64 a2) := by
    have h1 := new_cell (w.alloc (.cells #[.int .u64 a1] 31 (0, 0))) (.int .u64 a2) 31
    rwa [World.size_alloc] at h1
  have hp : PredW Try.prog 140 #[.pointer (some ⟨w.heap.size, 0, none⟩), .pointer (some ⟨w.heap.size + 1, 0, none⟩)] vOpen (isLate a1 a2) ((w.alloc (.cells #[.int .u64 a1] 31 (0, 0))).alloc (.cells #[.int .u64 a2] 31 (0, 0))) :=
    fun W x hb => late1_calls x _ _ _ _ W (cap_later hcap hb) (cap_later hcap2 hb)
  have K := Lib.hid (tokens_calls _ _ (fun args w => by kernel_rfl) (isLate a1 a2) A0 c0 l0 _ (Kd.C_below hr0 hb0) hsz hp)
  obtain ⟨R, hR⟩ : ∃ R, toksL (isLate a1 a2) l0 = R := ⟨_, rfl⟩
  rw [hR] at K ⊢
  have HB0 := Lib.hid hb0
  clear hr0 hsz hb0 hb1 hcap hcap2 hp h hR
  go_enter Try.func62, Try.ntmps62
  go_wp2_with (first | (go_at_call 89; refine K.out.mono ?_; rintro e w2 ⟨v2, rfl, ho2, hb2⟩; have HO2 := Lib.hid ho2; have HB2 := Lib.hid hb2; clear ho2 hb2))
  go_ret
  exact ⟨_, rfl, Kd.R_lower HO2.out HB0.out.size, below_step HB0.out HB2.out⟩
def ledger_Forget.f (l0 : List OpenS) (a1 : Int) : Option (List OpenS) := if l0.length * 64 ≤ 140737488355328 then some (l0.filter (fun x => !isAbout a1 x)) else none
set_option maxHeartbeats 1000000 in
theorem ledger_Forget.calls (A0 : Option Addr) (c0 : Nat) (l0 : List OpenS) (a1 : Int) (r : List OpenS) (w : World) (hr0 : Kd.C k61 w A0 l0.length l0) (hc0 : l0.length ≤ c0) (h : ledger_Forget.f l0 a1 = some r) :
    Calls Try.prog 28 #[.slice A0 l0.length c0, .int .u64 a1] w fun e w' => ∃ v0_ : Value, e = .returned (v0_) ∧ Kd.R k61 61 w' w.heap.size (fun _ => True) v0_ r ∧ Below w.heap.size w w' := by
  unfold ledger_Forget.f at h
  by_cases hsz : l0.length * 64 ≤ 140737488355328
  case neg => rw [if_neg hsz] at h; cases h
  rw [if_pos hsz] at h
  obtain rfl := Option.some.inj h
  have hb0 : Below w.heap.size w (w.alloc (.cells #[.int .u64 a1] 31 (0, 0))) := (Below.refl _ _).alloc (Nat.le_refl _) _
  have hcap : (w.alloc (.cells #[.int .u64 a1] 31 (0, 0))).cell? ⟨w.heap.size, 0, none⟩ = some (.int .u64 a1) := new_cell w _ _
  have hp : PredW Try.prog 87 #[.pointer (some ⟨w.heap.size, 0, none⟩)] vOpen (isAbout a1) (w.alloc (.cells #[.int .u64 a1] 31 (0, 0))) :=
    fun W x hb => forget1_calls x _ _ W (cap_later hcap hb)
  have K := Lib.hid (without_calls _ _ (fun args w => by kernel_rfl) (isAbout a1) A0 c0 l0 _ (Kd.C_below hr0 hb0) hsz hp)
  obtain ⟨R, hR⟩ : ∃ R, l0.filter (fun x => !isAbout a1 x) = R := ⟨_, rfl⟩
  rw [hR] at K ⊢
  have HB0 := Lib.hid hb0
  clear hr0 hsz hb0 hcap hp h hR
  go_enter Try.func28, Try.ntmps28
  go_wp2_with (first | (go_at_call 85; refine K.out.mono ?_; rintro e w2 ⟨v2, rfl, ho2, hb2⟩; have HO2 := Lib.hid ho2; have HB2 := Lib.hid hb2; clear ho2 hb2))
  go_ret
  exact ⟨_, rfl, Kd.R_lower HO2.out HB0.out.size, below_step HB0.out HB2.out⟩
end Go.Proofs.Ytaoflcmjmhfblaa.Q
