/- slices.IndexFunc, ContainsFunc, Clone, DeleteFunc at api.Open. -/
import Derived.Test.YtaoflcmjmhfblaaQ0
import Derived.Test.YtaoflcmjmhfblaaGBase
namespace Go.Proofs.Ytaoflcmjmhfblaa.Q
open Go.RowKit Go.Proofs.YtaoflcmjmhfblaaW.PrintWords Go.Proofs.YtaoflcmjmhfblaaW.PrintLast Go.Proofs.YtaoflcmjmhfblaaW.PrintMore Go.Proofs.Ytaoflcmjmhfblaa.H Go.Shelf
set_option linter.unusedVariables false
set_option linter.unusedSimpArgs false
def vOpen (x : S61) : Value := .agg #[.int .u8 x.f0.f0, .int .u64 x.f0.f1, .int .i64 x.f0.f2, .bool x.f0.f3, .int .u64 x.f0.f4, .int .u64 x.f1, .int .i64 x.f2, .bool x.f3, .int .u32 x.f4]
theorem loadOpen {w : World} {A : Option Addr} {n : Nat} {l : List S61} (h : Kd.C k61 w A n l) (i : Nat) (hi : i < n) : ∃ ad, A = some ad ∧ ∀ j v, ([.int .u8 (l.getD i z61).f0.f0, .int .u64 (l.getD i z61).f0.f1, .int .i64 (l.getD i z61).f0.f2, .bool (l.getD i z61).f0.f3, .int .u64 (l.getD i z61).f0.f4, .int .u64 (l.getD i z61).f1, .int .i64 (l.getD i z61).f2, .bool (l.getD i z61).f3, .int .u32 (l.getD i z61).f4] : List Value)[j]? = some v → w.cell? ((ad.add (i * 9)).add j) = some v := by
  obtain ⟨ad, cs, e, _, h4, h5⟩ := Kd.C_get h z61 (i : Int) (by omega) (by omega)
  rw [Int.toNat_natCast] at h4 h5
  have e2 := k61_open h4
  subst e2
  refine ⟨ad, e, fun j v hv => ?_⟩
  rw [add_add]
  exact h5 j v hv
set_option maxHeartbeats 2000000 in
set_option maxRecDepth 100000 in
theorem idxOpen (g : Nat) (cap : Array Value) (eg : ∀ args w, (callFunc g args).run Try.prog w = .ok (.enter g args) w) (p : S61 → Bool) (A : Option Addr) (c : Nat) (l : List S61) (w : World)
    (h : Kd.C k61 w A l.length l) (hp : PredW Try.prog g cap vOpen p w) :
    Calls Try.prog 83 #[.slice A l.length c, .func (.func g) #[] cap] w fun e w' => e = .returned (.int .i64 (idxI p l)) ∧ Below w.heap.size w w' := by
  have hm := Kd.C_max h
  obtain ⟨n, hn⟩ : ∃ n, l.length = n := ⟨_, rfl⟩
  rw [hn] at h hm ⊢
  have H := Lib.hid h
  have HN := Lib.hid hn
  have HP := Lib.hid hp
  clear h hn hp
  go_enter Try.func83, Try.ntmps83
  go_wp2
  go_loopg [5, 8] n (fun gg _ s8 wr => ∃ kk : Nat, kk ≤ n ∧ n - kk ≤ gg ∧ s8 = .int .i64 kk ∧ Hid (Below w.heap.size w wr) ∧ Hid (∀ j, j < kk → p (l.getD j z61) = false))
  case atStart => exact ⟨0, Nat.zero_le _, by omega, rfl, Lib.hid (Below.refl _ w), Lib.hid (fun j hj => absurd hj (Nat.not_lt_zero _))⟩
  case round =>
    obtain ⟨kk, hkk, hg, rfl, BW, A1⟩ := hrel
    by_cases hlt : kk < n
    · have hltz : (kk : Int) < (n : Int) := by omega
      obtain ⟨ad, ea, hc⟩ := loadOpen (Kd.C_below H.out BW.out) kk hlt
      subst ea
      obtain ⟨y, hy⟩ : ∃ y, l.getD kk z61 = y := ⟨_, rfl⟩
      rw [hy] at hc
      have HC := Lib.hid hc
      have hcall := HP.out wr y BW.out
      simp only [vOpen] at hcall
      have B := Lib.hid hy
      have hlz : l[kk]? = some y := by rw [← hy, List.getD_eq_getElem?_getD, List.getElem?_eq_getElem (by rw [HN.out]; exact hlt)]; rfl
      have BZ := Lib.hid hlz
      clear hy hlz hc
      cases hq : p y with
      | true =>
        rw [hq] at hcall
        have HQ := Lib.hid hq
        have HK := Lib.hid hcall
        clear hq hcall
        go_wp2_with (first | ((with_reducible refine gate_load 61 rfl ?_); refine wpList_load_any rfl 61 _ rfl _ rfl _ _ HC.out Try.underlying61 rfl (by kernel_rfl) ?_) | (go_at_fn g; refine HK.out.mono ?_; rintro e w' ⟨rfl, hb'⟩; have HB' := Lib.hid hb'; clear hb'))
        go_ret
        exact ⟨ret_i (idxI_hit p l kk y BZ.out HQ.out (fun j hj => by rw [getD_any l j y z61 (by rw [HN.out]; omega)]; exact A1.out j hj)).symm, below_step BW.out HB'.out⟩
      | false =>
        rw [hq] at hcall
        have HQ := Lib.hid hq
        have HK := Lib.hid hcall
        clear hq hcall
        go_wp2_with (first | ((with_reducible refine gate_load 61 rfl ?_); refine wpList_load_any rfl 61 _ rfl _ rfl _ _ HC.out Try.underlying61 rfl (by kernel_rfl) ?_) | (go_at_fn g; refine HK.out.mono ?_; rintro e w' ⟨rfl, hb'⟩; have HB' := Lib.hid hb'; clear hb'))
        go_roundg (n - (kk + 1))
        case measure => omega
        case rel =>
          refine ⟨kk + 1, by omega, by omega, by go_num, Lib.hid (below_step BW.out HB'.out), Lib.hid (fun j hj => ?_)⟩
          by_cases e : j = kk
          · subst e
            rw [B.out]; exact HQ.out
          · exact A1.out j (by omega)
    · have hltz : ¬ (kk : Int) < (n : Int) := by omega
      have : kk = n := by omega
      subst this
      go_wp2
      go_ret
      exact ⟨ret_i (idxI_miss p l z61 (fun j hj => A1.out j (by rw [HN.out] at hj; exact hj))).symm, BW.out⟩
set_option maxHeartbeats 1000000 in
theorem hasOpen (g : Nat) (cap : Array Value) (eg : ∀ args w, (callFunc g args).run Try.prog w = .ok (.enter g args) w) (p : S61 → Bool) (A : Option Addr) (c : Nat) (l : List S61) (w : World)
    (h : Kd.C k61 w A l.length l) (hp : PredW Try.prog g cap vOpen p w) :
    Calls Try.prog 78 #[.slice A l.length c, .func (.func g) #[] cap] w fun e w' => e = .returned (.bool (l.any p)) ∧ Below w.heap.size w w' := by
  have K := Lib.hid (idxOpen g cap eg p A c l w h hp)
  obtain ⟨r, hr⟩ : ∃ r, idxI p l = r := ⟨_, rfl⟩
  rw [hr] at K
  have HR := Lib.hid (idxI_any p l)
  rw [hr] at HR
  obtain ⟨b, hb⟩ : ∃ b, l.any p = b := ⟨_, rfl⟩
  rw [hb] at HR ⊢
  clear h hb hr hp
  go_enter Try.func78, Try.ntmps78
  go_wp2_with (first | (go_at_call 83; refine K.out.mono ?_; rintro e w' ⟨rfl, hb⟩; have HB := Lib.hid hb; clear hb))
  go_ret
  exact ⟨ret_b HR.out, HB.out⟩
theorem infoLOpen : (Try.prog.info? 61).map (fun i => (i.zero, i.size, i.bytes)) = some (some (.agg #[(.int .u8 0), (.int .u64 0), (.int .i64 0), (.bool false), (.int .u64 0), (.int .u64 0), (.int .i64 0), (.bool false), (.int .u32 0)]), 9, 64) := by kernel_rfl
theorem kmOpen {w W : World} {base : Nat} {ok : Nat → Prop} {x : S61} {cs : List Value} (h : k61.K w x cs) : k61.M W base ok x cs := by
  have e := k61_open h
  subst e
  exact k61_mkM _ _ _ x
set_option maxHeartbeats 2000000 in
set_option maxRecDepth 100000 in
theorem cloneOpen (A : Option Addr) (c : Nat) (l : List S61) (w : World) (h : Kd.C k61 w A l.length l) (hl : l.length * 64 ≤ 140737488355328) :
    Calls Try.prog 82 #[.slice A l.length c] w fun e w' => ∃ v0_ : Value, e = .returned v0_ ∧ Kd.R k61 61 w' w.heap.size (fun _ => True) v0_ l ∧ Below w.heap.size w w' := by
  have H := Lib.hid h
  have HL := Lib.hid hl
  have hnil := fun (W : World) (a : Option Addr) (n c : Nat) => Lib.run_eql_slice_nil (P := Try.prog) W 57 61 a n c 0 0 Try.underlying57
  rcases A with _ | ad
  · have h0 : l = [] := by
      rcases Nat.eq_zero_or_pos l.length with h | h
      · exact List.eq_nil_of_length_eq_zero h
      · obtain ⟨_, e, _⟩ := H.out.2.2 h; cases e
    subst h0
    clear h hl
    go_enter Try.func82, Try.ntmps82
    go_wp2_with (fail)
    all_goals first | (exfalso; omega) | (go_ret; exact ⟨_, rfl, Kd.R_nil _ _ _ _ _, Below.refl _ _⟩)
  · obtain ⟨n, hn⟩ : ∃ n, l.length = n := ⟨_, rfl⟩
    rw [hn] at H HL ⊢
    have hbel := (Below.refl w.heap.size w).alloc (Nat.le_refl _) (.cells #[] 61 (0, 0))
    have hro : Kd.R k61 61 (w.alloc (.cells #[] 61 (0, 0))) w.heap.size (fun _ => True) (.slice (some ⟨w.heap.size, 0, none⟩) 0 0) ([] : List S61) :=
      ⟨fun _ _ => trivial, [], ⟨rfl, .inr ⟨w.heap.size, 0, #[], rfl, Nat.le_refl _, heap_alloc_new _ _, Nat.le_refl _, by unfold maxLen; omega, rfl, rfl⟩⟩, Reps.none _ _⟩
    have hrd := Kd.C_below H.out hbel
    have HBE := Lib.hid hbel
    have HRO := Lib.hid hro
    have HRD := Lib.hid hrd
    have HN := Lib.hid hn
    clear h hn hl hbel hro hrd
    go_enter Try.func82, Try.ntmps82
    go_wp2_with (first
      | (at_builtin; refine Kd.R_append_rows k61 (w0 := w) (Rr := fun x cs => k61.K (w.alloc (.cells #[] 61 (0, 0))) x cs) w.heap.size rfl _ _ 57 61 (.agg #[(.int .u8 0), (.int .u64 0), (.int .i64 0), (.bool false), (.int .u64 0), (.int .u64 0), (.int .i64 0), (.bool false), (.int .u32 0)]) 64 rfl Try.underlying57 infoLOpen rfl (by decide) (by decide) _ ([] : List S61) l (some ad) n c (fun _ => True) (fun _ => False) rfl rfl HRO.out HRD.out (fun x cs h => kmOpen h) (fun _ h => h.elim) (fun _ _ => trivial) HBE.out (by simp) (by simpa using HL.out) ?_; intro v1 w1 ho hb hg hat; have HO := Lib.hid ho; have HB := Lib.hid hb; clear ho hb hg hat))
    all_goals first | (exfalso; omega) | (go_ret; exact ⟨_, rfl, HO.out, HB.out⟩)
theorem zeroVOpen (w : World) : (zeroValue 61).run Try.prog w = .ok (.agg #[(.int .u8 0), (.int .u64 0), (.int .i64 0), (.bool false), (.int .u64 0), (.int .u64 0), (.int .i64 0), (.bool false), (.int .u32 0)]) w := by kernel_rfl
set_option maxHeartbeats 4000000 in
set_option maxRecDepth 100000 in
theorem delOpen (g : Nat) (cap : Array Value) (eg : ∀ args w, (callFunc g args).run Try.prog w = .ok (.enter g args) w) (p : S61 → Bool) (l : List S61) (w0 w : World) (v : Value)
    (ho : Kd.R k61 61 w w0.heap.size (fun _ => True) v l) (hB : Below w0.heap.size w0 w) (hp : PredW Try.prog g cap vOpen p w0) :
    Calls Try.prog 146 #[v, .func (.func g) #[] cap] w fun e w' => ∃ v0_ : Value, e = .returned v0_ ∧ Kd.R k61 61 w' w0.heap.size (fun _ => True) v0_ (l.filter (fun x => !p x)) ∧ Below w0.heap.size w0 w' := by
  obtain ⟨A, c, hv, hlc, hC⟩ := Kd.R_reads ho
  subst hv
  have KI := Lib.hid (idxOpen g cap eg p A c l w hC (hp.later hB))
  by_cases hneg : l.any p = false
  · have e1 : idxI p l = -1 := by
      have h1 := idxI_any p l
      rw [hneg] at h1
      unfold idxI at h1 ⊢
      cases hf : l.findIdx? p with
      | none => rfl
      | some q => rw [hf] at h1; exact absurd (of_decide_eq_false h1) (by simp only; omega)
    have e2 : l.filter (fun x => !p x) = l := by
      rw [List.filter_eq_self]; intro x hx; rw [List.any_eq_false] at hneg; simpa using hneg x hx
    rw [e1] at KI
    rw [e2]
    have HO := Lib.hid ho
    have HB := Lib.hid hB
    clear ho hB hp hC e1 e2 hneg
    go_enter Try.func146, Try.ntmps146
    go_wp2_with (first | (go_at_call 83; refine KI.out.mono ?_; rintro e w1 ⟨rfl, hb⟩; have HB1 := Lib.hid hb; clear hb))
    go_ret
    exact ⟨_, rfl, Kd.R_below HO.out HB1.out, below_step HB.out HB1.out⟩
  · have hany : l.any p = true := by simpa using hneg
    obtain ⟨i0, hi0⟩ : ∃ i0, l.findIdx? p = some i0 := by
      cases hf : l.findIdx? p with
      | none => rw [List.findIdx?_eq_none_iff] at hf; rw [List.any_eq_true] at hany; obtain ⟨x, hx, hpx⟩ := hany; exact absurd hpx (by rw [hf x hx]; simp)
      | some q => exact ⟨q, rfl⟩
    have e1 : idxI p l = (i0 : Int) := by unfold idxI; rw [hi0]
    obtain ⟨hi0l, hpi, hpb⟩ := List.findIdx?_eq_some_iff_getElem.1 hi0
    obtain ⟨gb, c', hv', hgb, hglt, cells, hcells⟩ := Kd.R_form ho (by omega)
    have hAA : A = some ⟨gb, 0, none⟩ ∧ c = c' := by injection hv' with h1 h2 h3; exact ⟨h1, h3⟩
    obtain ⟨rfl, rfl⟩ := hAA
    have hm := Kd.C_max hC
    obtain ⟨n, hn⟩ : ∃ n, l.length = n := ⟨_, rfl⟩
    have hf0 : (l.take (i0 + 1)).filter (fun x => !p x) = l.take i0 := by
      rw [List.take_succ_eq_append_getElem hi0l, List.filter_append]
      rw [show [l[i0]].filter (fun x => !p x) = [] by simp [hpi], List.append_nil, List.filter_eq_self]
      intro x hx
      obtain ⟨q, hq, rfl⟩ := List.mem_iff_getElem.1 hx
      rw [List.length_take] at hq
      rw [List.getElem_take]
      have := hpb q (by omega)
      simpa using this
    obtain ⟨ad, hAD⟩ : ∃ ad : Addr, ad = ⟨gb, 0, none⟩ := ⟨_, rfl⟩
    rw [← hAD] at KI ho hC ⊢
    rw [e1] at KI
    rw [hn] at KI ho hC hlc hi0l hm ⊢
    have HI0 := Lib.hid hf0
    have HO := Lib.hid ho
    have HB := Lib.hid hB
    have HP := Lib.hid hp
    have HN := Lib.hid hn
    have HAD := Lib.hid hAD
    have HGB := Lib.hid (And.intro hgb hglt)
    clear ho hB hp hC e1 hneg hany hi0 hpb hv' hcells hf0 hn hAD hgb hglt hpi
    have w1e : IntKind.i64.wrap ((i0 : Int) + 1) = (i0 : Int) + 1 := by rw [IntKind.wrap_i64]; omega
    have hne : ((i0 : Int) == -1) = false := by rw [beq_eq_false_iff_ne]; omega
    go_enter Try.func146, Try.ntmps146
    go_wp2_with (first | (go_at_call 83; refine KI.out.mono ?_; rintro e w1 ⟨rfl, hb⟩; have HB1 := Lib.hid hb; clear hb))
    clear w1e
    go_loopw [5, 6] (fun v5 v6 wr => ∃ (i j : Nat) (xs : List S61), i < j ∧ j ≤ n ∧ v5 = .int .i64 i ∧ v6 = .int .i64 j ∧ Hid (xs.length = n ∧ xs.take i = (l.take j).filter (fun x => !p x) ∧ xs.drop j = l.drop j) ∧ Hid (Kd.R k61 61 wr w0.heap.size (fun _ => True) (.slice (some ad) n c) xs) ∧ Hid (Below w0.heap.size w0 wr)) (fun _ v6 _ => n - (intOf v6).toNat)
    case atStart => exact ⟨i0, i0 + 1, l, by omega, by omega, rfl, by go_num, Lib.hid ⟨HN.out, HI0.out.symm, rfl⟩, Lib.hid (Kd.R_below HO.out HB1.out), Lib.hid (below_step HB.out HB1.out)⟩
    case round =>
      clear HO HB
      obtain ⟨i, j, xs, hij, hjn, rfl, rfl, HX, HO, HB⟩ := hrel
      by_cases hlt : j < n
      · have hC := (Kd.R_reads' HO.out).2.2
        have hxl := HX.out.1
        obtain ⟨ad', ea, hc⟩ := loadOpen hC j (by omega)
        cases ea
        obtain ⟨y, hy⟩ : ∃ y, xs.getD j z61 = y := ⟨_, rfl⟩
        rw [hy] at hc
        have hlj : l[j]? = some y := by
          have h1 := congrArg (fun q => q[0]?) HX.out.2.2
          simp only [List.getElem?_drop, Nat.add_zero] at h1
          rw [← h1, ← hy, List.getD_eq_getElem?_getD, List.getElem?_eq_getElem (by omega)]; rfl
        have HCC := Lib.hid hc
        have HLJ := Lib.hid hlj
        have w1e : IntKind.i64.wrap ((j : Int) + 1) = (j : Int) + 1 := by rw [IntKind.wrap_i64]; omega
        have w2e : IntKind.i64.wrap ((i : Int) + 1) = (i : Int) + 1 := by rw [IntKind.wrap_i64]; omega
        have hB1 := HB.out.alloc HB.out.size (.cells #[.int .u8 y.f0.f0, .int .u64 y.f0.f1, .int .i64 y.f0.f2, .bool y.f0.f3, .int .u64 y.f0.f4, .int .u64 y.f1, .int .i64 y.f2, .bool y.f3, .int .u32 y.f4] 61 (0, 0))
        have hcall := HP.out _ y hB1
        have hro1 := Kd.R_alloc HO.out (.cells #[.int .u8 y.f0.f0, .int .u64 y.f0.f1, .int .i64 y.f0.f2, .bool y.f0.f3, .int .u64 y.f0.f4, .int .u64 y.f1, .int .i64 y.f2, .bool y.f3, .int .u32 y.f4] 61 (0, 0))
        have HB2 := Lib.hid hB1
        have HRO := Lib.hid hro1
        have HBX := Lib.hid (heap_alloc_new wr (.cells #[.int .u8 y.f0.f0, .int .u64 y.f0.f1, .int .i64 y.f0.f2, .bool y.f0.f3, .int .u64 y.f0.f4, .int .u64 y.f1, .int .i64 y.f2, .bool y.f3, .int .u32 y.f4] 61 (0, 0)))
        simp only [vOpen] at hcall
        clear hC hxl hc hy hlj hB1 hro1
        obtain ⟨b, hb⟩ : ∃ b, p y = b := ⟨_, rfl⟩
        rw [hb] at hcall
        have HPY := Lib.hid hb
        have HK := Lib.hid hcall
        clear hb hcall
        cases b with
        | true =>
          go_wp2_with (first
            | ((with_reducible refine gate_load 61 rfl ?_); refine wpList_load_any rfl 61 _ rfl _ rfl _ _ HCC.out Try.underlying61 rfl (by kernel_rfl) ?_)
            | ((with_reducible refine gate_storeT 61 rfl ?_); refine wpList_store_row rfl 61 _ _ rfl _ _ rfl rfl 61 _ (heap_alloc_new _ _) (by kernel_rfl) rfl (by simp [Value.oneCell']) ?_; rw [setRow_alloc])
            | ((with_reducible refine gate_load 61 rfl ?_); refine wpList_load_row rfl 61 _ rfl _ rfl 61 _ _ _ HBX.out Try.underlying61 rfl (by kernel_rfl) ?_)
            | (go_at_fn g; refine HK.out.mono ?_; rintro e w2 ⟨rfl, hb'⟩; have HB3 := Lib.hid hb'; clear hb'))
          go_roundw
          case rel =>
            refine ⟨i, j + 1, xs, by omega, by omega, rfl, by go_num, Lib.hid ⟨HX.out.1, ?_, ?_⟩, Lib.hid (Kd.R_below HRO.out HB3.out), Lib.hid (below_step HB2.out HB3.out)⟩
            · exact filt_skip HX.out.2.1 HLJ.out (by simp [HPY.out])
            · exact drop_next HX.out.2.2
          case measure => simp [intOf]; omega
        | false =>



          go_wp2_with (first
            | ((with_reducible refine gate_load 61 rfl ?_); refine wpList_load_any rfl 61 _ rfl _ rfl _ _ HCC.out Try.underlying61 rfl (by kernel_rfl) ?_)
            | ((with_reducible refine gate_storeT 61 rfl ?_); refine wpList_store_row rfl 61 _ _ rfl _ _ rfl rfl 61 _ (heap_alloc_new _ _) (by kernel_rfl) rfl (by simp [Value.oneCell']) ?_; rw [setRow_alloc])
            | ((with_reducible refine gate_load 61 rfl ?_); refine wpList_load_row rfl 61 _ rfl _ rfl 61 _ _ _ HBX.out Try.underlying61 rfl (by kernel_rfl) ?_)
            | (go_at_fn g; refine HK.out.mono ?_; rintro e w2 ⟨rfl, hb'⟩; have HB3 := Lib.hid hb'; have HBX' := Lib.hid ((hb'.block _ (by simp)).trans HBX.out); clear HBX; have HBX := HBX'; clear HBX' hb'; have HR3 := Lib.hid (hAD2 HAD.out (Kd.R_below HRO.out HB3.out)))
            | ((with_reducible refine gate_storeT 61 rfl ?_); refine storeWhole k61 (w0 := w0) w0.heap.size rfl rfl 61 _ _ rfl 61 (i := i) xs y _ _ (fun _ => True) (fun _ => False) (by show Value.pointer (some (ad.add (i * 9))) = _; rw [HAD.out]; exact congrArg (fun q => Value.pointer (some q)) (add_lit0 gb (i * 9))) rfl rfl (by kernel_rfl) (Kd.K_one k61 (k61_mk w2 y)) HR3.out (by omega) (k61_mkM _ _ _ y) (fun _ h => h.elim) (below_step HB2.out HB3.out) ?_; intro w3 ho3 hb3; have HR4 := Lib.hid ho3; have HB4 := Lib.hid hb3; clear ho3 hb3))
          go_roundw
          case rel =>
            refine ⟨i + 1, j + 1, xs.set i y, by omega, by omega, by go_num, by go_num, Lib.hid ⟨by rw [List.length_set]; exact HX.out.1, ?_, ?_⟩, Lib.hid (by rw [HAD.out]; exact HR4.out), HB4⟩
            · exact filt_keep HX.out.2.1 HLJ.out (by simp [HPY.out]) (by have := HX.out.1; omega)
            · exact drop_set_next HX.out.2.2 hij
          case measure => simp [intOf]; omega
      · have hjn' : j = n := by omega
        subst hjn'
        have hic : (i : Int) < (c : Int) := by omega
        obtain ⟨W', hrun, hR', hB'⟩ := clear_tail k61 57 61 (.agg #[(.int .u8 0), (.int .u64 0), (.int .i64 0), (.bool false), (.int .u64 0), (.int .u64 0), (.int .i64 0), (.bool false), (.int .u32 0)]) Try.underlying57 zeroVOpen rfl (by simp [Value.cells, Value.oneCell']) (hAD2 HAD.out HO.out) i hij
        have hrun2 : ∀ ty, (Builtin.clear_ #[57] ty #[.slice (some (ad.add (i * 9))) (j - i) (c - i)]).run Try.prog wr = .ok (.tuple #[]) W' := by
          intro ty; rw [HAD.out, add_lit0]; exact hrun ty
        have HR5 := Lib.hid hR'
        have HB5 := Lib.hid (hB' _ HB.out)
        clear hrun hR' hB'
        go_wp2_with (fail)
        go_ret
        have h1 := HX.out.2.1
        have e1 : l.take j = l := List.take_of_length_le (by rw [HN.out]; omega)
        rw [e1] at h1
        have hfin : Kd.R k61 61 W' w0.heap.size (fun _ => True) (.slice (some ad) i c) (l.filter (fun x => !p x)) := by rw [← h1, HAD.out]; exact HR5.out
        exact ⟨_, rfl, hfin, HB5.out⟩

end Go.Proofs.Ytaoflcmjmhfblaa.Q
