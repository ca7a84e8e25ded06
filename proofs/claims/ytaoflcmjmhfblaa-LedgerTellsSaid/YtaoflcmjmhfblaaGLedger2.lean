/- The contract of ledger.May. -/
import Derived.Test.YtaoflcmjmhfblaaGLedger
import Derived.Test.YtaoflcmjmhfblaaGDraw
import Derived.Deep.RegionWith
import Derived.Test.YtaoflcmjmhfblaaQ3
namespace Go.Proofs.Ytaoflcmjmhfblaa.Q
open Go.RowKit Go.Proofs.YtaoflcmjmhfblaaW.PrintWords Go.Proofs.YtaoflcmjmhfblaaW.PrintLast Go.Proofs.YtaoflcmjmhfblaaW.PrintMore Go.Proofs.Ytaoflcmjmhfblaa.H Go.Shelf
set_option linter.unusedVariables false
set_option linter.unusedSimpArgs false
def mayO (x : OpenS) : Bool := (ledger_may.f x.f0.f0 x.f0.f1 x.f0.f2 x.f0.f3 x.f0.f4 x.f1 x.f2 x.f3 x.f4).getD false
theorem may_f (x : OpenS) : ledger_may.f x.f0.f0 x.f0.f1 x.f0.f2 x.f0.f3 x.f0.f4 x.f1 x.f2 x.f3 x.f4 = some (mayO x) := by
  have h : (ledger_may.f x.f0.f0 x.f0.f1 x.f0.f2 x.f0.f3 x.f0.f4 x.f1 x.f2 x.f3 x.f4).isSome = true := by
    unfold ledger_may.f ledger_launch.f
    simp only [Option.bind_some]
    repeat' split
    all_goals rfl
  unfold mayO
  obtain ⟨r, hr⟩ := Option.isSome_iff_exists.1 h
  rw [hr]; rfl
def lau (x : OpenS) : Bool := x.f0.f0 == 1
def ofO (x : OpenS) : Int × Bool := (x.f0.f4, x.f0.f0 == 2)
def encW (k : Int × Bool) : Value := .agg #[.int .u64 k.1, .bool k.2]
theorem mayc (x : OpenS) (w : World) : Calls Try.prog 76 #[vOpen x] w fun e w' => e = .returned (.bool (mayO x)) ∧ Below w.heap.size w w' := ledger_may.calls _ _ _ _ _ _ _ _ _ _ w (may_f x)
theorem lauc (x : OpenS) (w : World) : Calls Try.prog 77 #[vOpen x] w fun e w' => e = .returned (.bool (lau x)) ∧ Below w.heap.size w w' := ledger_launch.calls _ _ _ _ _ _ _ _ _ _ w rfl
theorem ofc (x : OpenS) (w : World) : Calls Try.prog 80 #[vOpen x] w fun e w' => e = .returned (encW (ofO x)) ∧ Below w.heap.size w w' := ledger_of.calls _ _ _ _ _ _ _ _ _ _ _ w rfl
theorem eqWhat (d : Nat) (w : World) (x0 y0 : Int) (x1 y1 : Bool) : (Op.equalIn (d + 2) 139 (.agg #[.int .u64 x0, .bool x1]) (.agg #[.int .u64 y0, .bool y1])).run Try.prog w = .ok (x0 == y0 && (x1 == y1)) w := by
  refine eqA_of Try.underlying139 (by kernel_rfl) ?_
  refine eqf_cons (by rfl) (by go_simp; rfl) (by go_simp; rfl) (by go_simp) ?_
  exact eqf_last (by rfl) (by go_simp; rfl) (by go_simp; rfl) (by go_simp)
theorem keyWhat : KeyOk Try.prog 139 encW where
  eq w a b := by
    obtain ⟨a0, a1⟩ := a
    obtain ⟨b0, b1⟩ := b
    show (Op.equalIn (9998 + 2) _ _ _).run _ _ = _
    simp only [encW]
    rw [eqWhat 9998 w a0 b0 a1 b1]
    congr 1
    by_cases h0 : a0 = b0 <;> by_cases h1 : a1 = b1 <;> simp [h0, h1]
  check w em a := by
    obtain ⟨m, hm⟩ : ∃ m, 10000 = m + 2 := ⟨9998, rfl⟩
    rw [hm]
    clear hm
    unfold encW
    simp only [Instr.checkKey]
    go_simp
  now := ⟨_, Try.underlying139, .inl (fun a b => rfl)⟩
  stays a := by simp [Instr.sameBits, encW]
def prevTok (l : List OpenS) (i : Nat) : Int := if i = 0 then 0 else (l.getD (i - 1) z61).f0.f1
/-- Is the i-th one as it may be, behind those ahead of it? -/
def okAt (l : List OpenS) (last : Int) (i : Nat) : Prop :=
  mayO (l.getD i z61) = true ∧ prevTok l i < (l.getD i z61).f0.f1 ∧ (l.getD i z61).f0.f1 ≤ last ∧ (lau (l.getD i z61) = false → ∀ j, j < i → lau (l.getD j z61) = false → ofO (l.getD j z61) ≠ ofO (l.getD i z61))
def MayL (l : List OpenS) (last : Int) : Prop := (∀ i, i < l.length → okAt l last i) ∧ (l.filter lau).length ≤ 4096
/-- What the map tells: of those that are no launches how many there are. -/
def metM (l : List OpenS) (i : Nat) (m : List ((Int × Bool) × Int)) : Prop := ∀ k, 0 ≤ (lookL m k).getD 0 ∧ (lookL m k).getD 0 ≤ i ∧ (0 < (lookL m k).getD 0 ↔ ∃ j, j < i ∧ lau (l.getD j z61) = false ∧ ofO (l.getD j z61) = k)
theorem metM_next_l {l : List OpenS} {i : Nat} {m : List ((Int × Bool) × Int)} (h : metM l i m) (hl : lau (l.getD i z61) = true) : metM l (i + 1) m := by
  intro k
  obtain ⟨h1, h2, h3⟩ := h k
  refine ⟨h1, by omega, h3.trans ⟨fun ⟨j, a, b, c⟩ => ⟨j, by omega, b, c⟩, fun ⟨j, a, b, c⟩ => ?_⟩⟩
  rcases Nat.lt_or_eq_of_le (Nat.le_of_lt_succ a) with q | q
  · exact ⟨j, q, b, c⟩
  · subst q; rw [hl] at b; cases b
theorem metM_next {l : List OpenS} {i : Nat} {m : List ((Int × Bool) × Int)} (h : metM l i m) (hl : lau (l.getD i z61) = false) {x : Int} (hx : x = (lookL m (ofO (l.getD i z61))).getD 0 + 1) : metM l (i + 1) (setL m (ofO (l.getD i z61)) x) := by
  intro k
  rw [lookL_setL]
  by_cases e : k = ofO (l.getD i z61)
  · subst e
    obtain ⟨h1, h2, h3⟩ := h (ofO (l.getD i z61))
    rw [if_pos rfl]
    simp only [Option.getD_some]
    refine ⟨by omega, by omega, ⟨fun _ => ⟨i, by omega, hl, rfl⟩, fun _ => by omega⟩⟩
  · obtain ⟨h1, h2, h3⟩ := h k
    rw [if_neg e]
    refine ⟨h1, by omega, h3.trans ⟨fun ⟨j, a, b, c⟩ => ⟨j, by omega, b, c⟩, fun ⟨j, a, b, c⟩ => ?_⟩⟩
    rcases Nat.lt_or_eq_of_le (Nat.le_of_lt_succ a) with q | q
    · exact ⟨j, q, b, c⟩
    · subst q; exact absurd c.symm e
theorem box_cell {w : World} {g t : Nat} {cs : Array Value} {fr : Nat × Nat} (h : w.heap[g]? = some (.cells cs t fr)) (k : Nat) (v : Value) (hv : cs[k]? = some v) : w.cell? ⟨g, k, none⟩ = some v := by
  simp only [World.cell?, h]
  simpa using hv
theorem launchesL (l : List OpenS) (hl : l.length ≤ 9223372036854775807) : ∃ k, ledger_launches.f k l = some ((l.filter lau).length : Int) := by
  have key : ∀ (d : Nat) (k : Nat) (i : Nat) (x : Int), i + d = l.length → d < k → x = (((l.take i).filter lau).length : Int) → ledger_launches.l0 k x l (l.length : Int) (i : Int) = some ((l.filter lau).length : Int) := by
    intro d
    induction d with
    | zero =>
      intro k i x h1 h2 h3
      obtain ⟨k, rfl⟩ : ∃ q, k = q + 1 := ⟨k - 1, by omega⟩
      simp only [ledger_launches.l0]
      rw [if_neg (by omega), h3, List.take_of_length_le (by omega)]
    | succ d ih =>
      intro k i x h1 h2 h3
      obtain ⟨k, rfl⟩ : ∃ q, k = q + 1 := ⟨k - 1, by omega⟩
      simp only [ledger_launches.l0]
      rw [if_pos (by omega), if_pos (by omega), if_pos (by omega)]
      have hi : i < l.length := by omega
      have e1 : rd_T61 l (i : Int) = l[i] := by unfold rd_T61; rw [Int.toNat_natCast, List.getD_eq_getElem?_getD, List.getElem?_eq_getElem hi]; rfl
      rw [e1]
      have e2 : wrap64 ((i : Int) + 1) = ((i + 1 : Nat) : Int) := by unfold wrap64; omega
      have hle : ((l.take i).filter lau).length ≤ i := Nat.le_trans (List.length_filter_le _ _) (List.length_take_le _ _)
      have e3 : wrap64 (x + 1) = x + 1 := by unfold wrap64; omega
      rw [e2, e3]
      have e4 : (l.take (i + 1)).filter lau = (l.take i).filter lau ++ [l[i]].filter lau := by rw [List.take_succ_eq_append_getElem hi, List.filter_append]
      show (Option.bind (some (lau l[i])) _) = _
      rw [Option.bind_some]
      cases hq : lau l[i] with
      | true => rw [if_pos rfl]; exact ih k (i + 1) _ (by omega) (by omega) (by rw [e4, List.length_append, h3]; simp [hq])
      | false => rw [if_neg (by simp)]; exact ih k (i + 1) _ (by omega) (by omega) (by rw [e4, List.length_append, h3]; simp [hq])
  refine ⟨l.length + 1, ?_⟩
  exact key l.length _ 0 0 (by omega) (by omega) rfl
theorem launchesc (A : Option Addr) (c : Nat) (l : List OpenS) (w : World) (h : Kd.C k61 w A l.length l) (hc : l.length ≤ c) : Calls Try.prog 81 #[.slice A l.length c] w fun e w' => e = .returned (.int .i64 ((l.filter lau).length : Int)) ∧ Below w.heap.size w w' := by
  obtain ⟨k, hk⟩ := launchesL l (Kd.C_max h)
  exact ledger_launches.calls k A c l _ w h hc hk
theorem zeroInt (w : World) : (zeroValue 3).run Try.prog w = .ok (.int .i64 0) w := by kernel_rfl
def RetP (e : Ending) (P : Prop) : Prop := ∃ b, e = .returned (.bool b) ∧ (b = true ↔ P)
theorem RetP.f {e : Ending} {P : Prop} (he : e = .returned (.bool false)) (h : ¬ P) : RetP e P := ⟨false, he, ⟨fun hf => absurd hf (by simp), fun hp => absurd hp h⟩⟩
theorem RetP.b {e : Ending} {P : Prop} {b : Bool} (he : e = .returned (.bool b)) (h : b = true ↔ P) : RetP e P := ⟨b, he, h⟩
set_option maxHeartbeats 8000000 in
set_option maxRecDepth 100000 in
theorem may_walk (A : Option Addr) (c : Nat) (l : List OpenS) (last : Int) (w : World) (h : Kd.C k61 w A l.length l) (hlc : l.length ≤ c) :
    Calls Try.prog 30 #[.slice A l.length c, .int .u64 last] w fun e w' => RetP e (MayL l last) ∧ Below w.heap.size w w' := by
  have hm := Kd.C_max h
  have KLS := Lib.hid (fun W (hW : Below w.heap.size w W) => launchesc A c l W (Kd.C_below h hW) hlc)
  obtain ⟨n, hn⟩ : ∃ n, l.length = n := ⟨_, rfl⟩
  rw [hn] at h hm KLS ⊢
  have H := Lib.hid h
  have HN := Lib.hid hn
  have mixed : Try.prog.follows .mixedOrders = true := by kernel_rfl
  have hmm := @run_makeMap Try.prog
  have HM0 := Lib.hid (MapR.made (encK := encW) (encV := Value.int .i64) w)
  have HB0 := Lib.hid ((Below.refl w.heap.size w).alloc (Nat.le_refl _) (.map #[] 0))
  clear h hn hlc
  go_enter Try.func30, Try.ntmps30
  go_wp2
  clear hmm
  go_loopw [6, 12] (fun v6 v12 wr => ∃ (i : Nat) (m : List ((Int × Bool) × Int)), i ≤ n ∧ v12 = .int .i64 i ∧ v6 = .int .u64 (prevTok l i) ∧ Hid (∀ j, j < i → okAt l last j) ∧ Hid (metM l i m) ∧ Hid (MapR encW (Value.int .i64) wr w.heap.size m) ∧ Hid (Below w.heap.size w wr)) (fun _ v12 _ => n - (intOf v12).toNat)
  case atStart => exact ⟨0, [], Nat.zero_le _, rfl, rfl, Lib.hid (fun j hj => absurd hj (Nat.not_lt_zero _)), Lib.hid (fun k => ⟨by rw [lookL_nil]; exact Int.le_refl _, by rw [lookL_nil]; exact Int.le_refl _, ⟨fun h => absurd h (by rw [lookL_nil]; exact Int.lt_irrefl _), fun ⟨j, hj, _⟩ => absurd hj (Nat.not_lt_zero _)⟩⟩), HM0, HB0⟩
  case round =>
    clear HM0 HB0
    obtain ⟨i, m, hi, rfl, rfl, HD, HMM, HM, HB⟩ := hrel
    by_cases hlt : i < n
    · have hltz : (i : Int) < (n : Int) := by omega
      obtain ⟨ad, ea, hc⟩ := loadOpen (Kd.C_below H.out HB.out) i hlt
      subst ea
      obtain ⟨pt, hpt⟩ : ∃ pt, prevTok l i = pt := ⟨_, rfl⟩
      rw [hpt]
      have HPT := Lib.hid hpt
      have hn1 : prevTok l (i + 1) = (l.getD i z61).f0.f1 := by unfold prevTok; rw [if_neg (by omega), Nat.add_sub_cancel]
      obtain ⟨y, hy⟩ : ∃ y, l.getD i z61 = y := ⟨_, rfl⟩
      rw [hy] at hc hn1
      have HY := Lib.hid hy
      have HN1 := Lib.hid hn1
      have hok : okAt l last i ↔ (mayO y = true ∧ pt < y.f0.f1 ∧ y.f0.f1 ≤ last ∧ (lau y = false → ∀ j, j < i → lau (l.getD j z61) = false → ofO (l.getD j z61) ≠ ofO y)) := by
        unfold okAt; rw [hy, hpt]
      have HOK := Lib.hid hok
      have HCC := Lib.hid hc
      have w1e : IntKind.i64.wrap ((i : Int) + 1) = (i : Int) + 1 := by rw [IntKind.wrap_i64]; omega
      have KM := fun W => mayc y W
      have KL := fun W => lauc y W
      have KO := fun W => ofc y W
      obtain ⟨b1, hb1⟩ : ∃ b, mayO y = b := ⟨_, rfl⟩
      obtain ⟨b2, hb2⟩ : ∃ b, lau y = b := ⟨_, rfl⟩
      obtain ⟨ky, hky⟩ : ∃ b, ofO y = b := ⟨_, rfl⟩
      rw [hb1] at KM hok
      rw [hb2] at KL hok
      rw [hky] at KO hok
      simp only [vOpen] at KM KL KO
      obtain ⟨cnt, hcnt⟩ : ∃ q, (lookL m ky).getD 0 = q := ⟨_, rfl⟩
      have hcm := HMM.out ky
      rw [hcnt] at hcm
      obtain ⟨hc0, hc1, hc2⟩ := hcm
      have HC2 := Lib.hid hc2
      have HCN := Lib.hid hcnt
      have HEQ := Lib.hid (And.intro hb1 (And.intro hb2 hky))
      have HOK2 := Lib.hid hok
      have KM := Lib.hid KM
      have KL := Lib.hid KL
      have KO := Lib.hid KO
      have HLT := Lib.hid (show wr.heap.size < (wr.alloc (.cells #[.int .u8 y.f0.f0, .int .u64 y.f0.f1, .int .i64 y.f0.f2, .bool y.f0.f3, .int .u64 y.f0.f4, .int .u64 y.f1, .int .i64 y.f2, .bool y.f3, .int .u32 y.f4] 61 (0, 0))).heap.size by simp)
      have HBX := Lib.hid (heap_alloc_new wr (.cells #[.int .u8 y.f0.f0, .int .u64 y.f0.f1, .int .i64 y.f0.f2, .bool y.f0.f3, .int .u64 y.f0.f4, .int .u64 y.f1, .int .i64 y.f2, .bool y.f3, .int .u32 y.f4] 61 (0, 0)))
      have HBn := Lib.hid (HB.out.alloc HB.out.size (.cells #[.int .u8 y.f0.f0, .int .u64 y.f0.f1, .int .i64 y.f0.f2, .bool y.f0.f3, .int .u64 y.f0.f4, .int .u64 y.f1, .int .i64 y.f2, .bool y.f3, .int .u32 y.f4] 61 (0, 0)))
      have HMn := Lib.hid (HM.out.later ((Below.refl wr.heap.size wr).alloc (Nat.le_refl _) (.cells #[.int .u8 y.f0.f0, .int .u64 y.f0.f1, .int .i64 y.f0.f2, .bool y.f0.f3, .int .u64 y.f0.f4, .int .u64 y.f1, .int .i64 y.f2, .bool y.f3, .int .u32 y.f4] 61 (0, 0))))
      clear HB HM
      have HB := HBn
      have HM := HMn
      clear HBn HMn hc hpt hn1 hy hok hb1 hb2 hky hcnt hc2
      have no : ∀ (e : Ending) (W : World), e = .returned (.bool false) → Below w.heap.size w W → ¬ okAt l last i → RetP e (MayL l last) ∧ Below w.heap.size w W := fun e W he hb hno => ⟨.f he (fun hM => hno (hM.1 i (by rw [HN.out]; exact hlt))), hb⟩
      have NO := Lib.hid no
      clear no
      cases b1 with
      | false =>
        go_wp2_with (first | ((with_reducible refine gate_load 61 rfl ?_); refine wpList_load_any rfl 61 _ rfl _ rfl _ _ HCC.out Try.underlying61 rfl (by kernel_rfl) ?_) | ((with_reducible refine gate_storeT 61 rfl ?_); refine wpList_store_row rfl 61 _ _ rfl _ _ rfl rfl 61 _ (heap_alloc_new _ _) (by kernel_rfl) rfl (by simp [Value.oneCell']) ?_; rw [setRow_alloc]) | ((with_reducible refine gate_load 61 rfl ?_); refine load_row_g (by rfl) 61 _ rfl _ rfl 61 _ _ _ HBX.out Try.underlying61 rfl (by kernel_rfl) ?_) | (go_at_call 76; refine (KM.out _).mono ?_; rintro e w2 ⟨rfl, hb2⟩; have HB' := Lib.hid (below_step HB.out hb2); clear HB; have HB := HB'; clear HB'; have HBX' := Lib.hid ((hb2.block _ HLT.out).trans HBX.out); clear HBX; have HBX := HBX'; clear HBX'; have HLT' := Lib.hid (Nat.lt_of_lt_of_le HLT.out hb2.size); clear HLT; have HLT := HLT'; clear HLT'; have HM' := Lib.hid (HM.out.later hb2); clear HM; have HM := HM'; clear HM' hb2; have hcz1 := box_cell HBX.out 1 _ rfl) | (go_at_call 77; refine (KL.out _).mono ?_; rintro e w2 ⟨rfl, hb2⟩; have HB' := Lib.hid (below_step HB.out hb2); clear HB; have HB := HB'; clear HB'; have HBX' := Lib.hid ((hb2.block _ HLT.out).trans HBX.out); clear HBX; have HBX := HBX'; clear HBX'; have HLT' := Lib.hid (Nat.lt_of_lt_of_le HLT.out hb2.size); clear HLT; have HLT := HLT'; clear HLT'; have HM' := Lib.hid (HM.out.later hb2); clear HM; have HM := HM'; clear HM' hb2; have hcz1 := box_cell HBX.out 1 _ rfl) | (go_at_call 80; refine (KO.out _).mono ?_; rintro e w2 ⟨rfl, hb2⟩; have HB' := Lib.hid (below_step HB.out hb2); clear HB; have HB := HB'; clear HB'; have HBX' := Lib.hid ((hb2.block _ HLT.out).trans HBX.out); clear HBX; have HBX := HBX'; clear HBX'; have HLT' := Lib.hid (Nat.lt_of_lt_of_le HLT.out hb2.size); clear HLT; have HLT := HLT'; clear HLT'; have HM' := Lib.hid (HM.out.later hb2); clear HM; have HM := HM'; clear HM' hb2; have hcz1 := box_cell HBX.out 1 _ rfl))
        go_ret
        exact NO.out _ _ rfl HB.out (fun hq => by have := HOK2.out.1 hq; simp at this)
      | true =>
        by_cases ht1 : y.f0.f1 ≤ pt
        · go_wp2_with (first | ((with_reducible refine gate_load 61 rfl ?_); refine wpList_load_any rfl 61 _ rfl _ rfl _ _ HCC.out Try.underlying61 rfl (by kernel_rfl) ?_) | ((with_reducible refine gate_storeT 61 rfl ?_); refine wpList_store_row rfl 61 _ _ rfl _ _ rfl rfl 61 _ (heap_alloc_new _ _) (by kernel_rfl) rfl (by simp [Value.oneCell']) ?_; rw [setRow_alloc]) | ((with_reducible refine gate_load 61 rfl ?_); refine load_row_g (by rfl) 61 _ rfl _ rfl 61 _ _ _ HBX.out Try.underlying61 rfl (by kernel_rfl) ?_) | (go_at_call 76; refine (KM.out _).mono ?_; rintro e w2 ⟨rfl, hb2⟩; have HB' := Lib.hid (below_step HB.out hb2); clear HB; have HB := HB'; clear HB'; have HBX' := Lib.hid ((hb2.block _ HLT.out).trans HBX.out); clear HBX; have HBX := HBX'; clear HBX'; have HLT' := Lib.hid (Nat.lt_of_lt_of_le HLT.out hb2.size); clear HLT; have HLT := HLT'; clear HLT'; have HM' := Lib.hid (HM.out.later hb2); clear HM; have HM := HM'; clear HM' hb2; have hcz1 := box_cell HBX.out 1 _ rfl) | (go_at_call 77; refine (KL.out _).mono ?_; rintro e w2 ⟨rfl, hb2⟩; have HB' := Lib.hid (below_step HB.out hb2); clear HB; have HB := HB'; clear HB'; have HBX' := Lib.hid ((hb2.block _ HLT.out).trans HBX.out); clear HBX; have HBX := HBX'; clear HBX'; have HLT' := Lib.hid (Nat.lt_of_lt_of_le HLT.out hb2.size); clear HLT; have HLT := HLT'; clear HLT'; have HM' := Lib.hid (HM.out.later hb2); clear HM; have HM := HM'; clear HM' hb2; have hcz1 := box_cell HBX.out 1 _ rfl) | (go_at_call 80; refine (KO.out _).mono ?_; rintro e w2 ⟨rfl, hb2⟩; have HB' := Lib.hid (below_step HB.out hb2); clear HB; have HB := HB'; clear HB'; have HBX' := Lib.hid ((hb2.block _ HLT.out).trans HBX.out); clear HBX; have HBX := HBX'; clear HBX'; have HLT' := Lib.hid (Nat.lt_of_lt_of_le HLT.out hb2.size); clear HLT; have HLT := HLT'; clear HLT'; have HM' := Lib.hid (HM.out.later hb2); clear HM; have HM := HM'; clear HM' hb2; have hcz1 := box_cell HBX.out 1 _ rfl))
          all_goals first | (exfalso; omega) | (go_ret; exact NO.out _ _ rfl HB.out (fun hq => by have := (HOK2.out.1 hq).2.1; omega))
        · by_cases ht2 : last < y.f0.f1
          · go_wp2_with (first | ((with_reducible refine gate_load 61 rfl ?_); refine wpList_load_any rfl 61 _ rfl _ rfl _ _ HCC.out Try.underlying61 rfl (by kernel_rfl) ?_) | ((with_reducible refine gate_storeT 61 rfl ?_); refine wpList_store_row rfl 61 _ _ rfl _ _ rfl rfl 61 _ (heap_alloc_new _ _) (by kernel_rfl) rfl (by simp [Value.oneCell']) ?_; rw [setRow_alloc]) | ((with_reducible refine gate_load 61 rfl ?_); refine load_row_g (by rfl) 61 _ rfl _ rfl 61 _ _ _ HBX.out Try.underlying61 rfl (by kernel_rfl) ?_) | (go_at_call 76; refine (KM.out _).mono ?_; rintro e w2 ⟨rfl, hb2⟩; have HB' := Lib.hid (below_step HB.out hb2); clear HB; have HB := HB'; clear HB'; have HBX' := Lib.hid ((hb2.block _ HLT.out).trans HBX.out); clear HBX; have HBX := HBX'; clear HBX'; have HLT' := Lib.hid (Nat.lt_of_lt_of_le HLT.out hb2.size); clear HLT; have HLT := HLT'; clear HLT'; have HM' := Lib.hid (HM.out.later hb2); clear HM; have HM := HM'; clear HM' hb2; have hcz1 := box_cell HBX.out 1 _ rfl) | (go_at_call 77; refine (KL.out _).mono ?_; rintro e w2 ⟨rfl, hb2⟩; have HB' := Lib.hid (below_step HB.out hb2); clear HB; have HB := HB'; clear HB'; have HBX' := Lib.hid ((hb2.block _ HLT.out).trans HBX.out); clear HBX; have HBX := HBX'; clear HBX'; have HLT' := Lib.hid (Nat.lt_of_lt_of_le HLT.out hb2.size); clear HLT; have HLT := HLT'; clear HLT'; have HM' := Lib.hid (HM.out.later hb2); clear HM; have HM := HM'; clear HM' hb2; have hcz1 := box_cell HBX.out 1 _ rfl) | (go_at_call 80; refine (KO.out _).mono ?_; rintro e w2 ⟨rfl, hb2⟩; have HB' := Lib.hid (below_step HB.out hb2); clear HB; have HB := HB'; clear HB'; have HBX' := Lib.hid ((hb2.block _ HLT.out).trans HBX.out); clear HBX; have HBX := HBX'; clear HBX'; have HLT' := Lib.hid (Nat.lt_of_lt_of_le HLT.out hb2.size); clear HLT; have HLT := HLT'; clear HLT'; have HM' := Lib.hid (HM.out.later hb2); clear HM; have HM := HM'; clear HM' hb2; have hcz1 := box_cell HBX.out 1 _ rfl))
            all_goals first | (exfalso; omega) | (go_ret; exact NO.out _ _ rfl HB.out (fun hq => by have := (HOK2.out.1 hq).2.2.1; omega))
          · have okall : (lau y = false → ∀ j, j < i → lau (l.getD j z61) = false → ofO (l.getD j z61) ≠ ofO y) → ∀ j, j < i + 1 → okAt l last j := by
              intro hq j hj
              rcases Nat.lt_or_eq_of_le (Nat.le_of_lt_succ hj) with q | q
              · exact HD.out j q
              · subst q
                exact HOK.out.2 ⟨HEQ.out.1, by omega, by omega, hq⟩
            have OKA := Lib.hid okall
            clear okall
            by_cases hcz : 0 < cnt
            · cases b2 with
              | false =>
                go_wp2_with (first | ((with_reducible refine gate_load 61 rfl ?_); refine wpList_load_any rfl 61 _ rfl _ rfl _ _ HCC.out Try.underlying61 rfl (by kernel_rfl) ?_) | ((with_reducible refine gate_storeT 61 rfl ?_); refine wpList_store_row rfl 61 _ _ rfl _ _ rfl rfl 61 _ (heap_alloc_new _ _) (by kernel_rfl) rfl (by simp [Value.oneCell']) ?_; rw [setRow_alloc]) | ((with_reducible refine gate_load 61 rfl ?_); refine load_row_g (by rfl) 61 _ rfl _ rfl 61 _ _ _ HBX.out Try.underlying61 rfl (by kernel_rfl) ?_) | (go_at_call 76; refine (KM.out _).mono ?_; rintro e w2 ⟨rfl, hb2⟩; have HB' := Lib.hid (below_step HB.out hb2); clear HB; have HB := HB'; clear HB'; have HBX' := Lib.hid ((hb2.block _ HLT.out).trans HBX.out); clear HBX; have HBX := HBX'; clear HBX'; have HLT' := Lib.hid (Nat.lt_of_lt_of_le HLT.out hb2.size); clear HLT; have HLT := HLT'; clear HLT'; have HM' := Lib.hid (HM.out.later hb2); clear HM; have HM := HM'; clear HM' hb2; have hcz1 := box_cell HBX.out 1 _ rfl) | (go_at_call 77; refine (KL.out _).mono ?_; rintro e w2 ⟨rfl, hb2⟩; have HB' := Lib.hid (below_step HB.out hb2); clear HB; have HB := HB'; clear HB'; have HBX' := Lib.hid ((hb2.block _ HLT.out).trans HBX.out); clear HBX; have HBX := HBX'; clear HBX'; have HLT' := Lib.hid (Nat.lt_of_lt_of_le HLT.out hb2.size); clear HLT; have HLT := HLT'; clear HLT'; have HM' := Lib.hid (HM.out.later hb2); clear HM; have HM := HM'; clear HM' hb2; have hcz1 := box_cell HBX.out 1 _ rfl) | (go_at_call 80; refine (KO.out _).mono ?_; rintro e w2 ⟨rfl, hb2⟩; have HB' := Lib.hid (below_step HB.out hb2); clear HB; have HB := HB'; clear HB'; have HBX' := Lib.hid ((hb2.block _ HLT.out).trans HBX.out); clear HBX; have HBX := HBX'; clear HBX'; have HLT' := Lib.hid (Nat.lt_of_lt_of_le HLT.out hb2.size); clear HLT; have HLT := HLT'; clear HLT'; have HM' := Lib.hid (HM.out.later hb2); clear HM; have HM := HM'; clear HM' hb2; have hcz1 := box_cell HBX.out 1 _ rfl) | (at_lookup; refine wpList_lookI (by rfl) _ _ 147 139 3 rfl keyWhat Try.underlying147 zeroInt HM.out ky rfl rfl cnt HCN.out ?_))
                all_goals first
                  | (exfalso; omega)
                  | (go_ret; refine NO.out _ _ rfl HB.out (fun hq => ?_); obtain ⟨j, j1, j2, j3⟩ := HC2.out.1 (by omega); exact (HOK.out.1 hq).2.2.2 HEQ.out.2.1 j j1 j2 (by rw [j3]; exact HEQ.out.2.2.symm))
              | true =>
                go_wp2_with (first | ((with_reducible refine gate_load 61 rfl ?_); refine wpList_load_any rfl 61 _ rfl _ rfl _ _ HCC.out Try.underlying61 rfl (by kernel_rfl) ?_) | ((with_reducible refine gate_storeT 61 rfl ?_); refine wpList_store_row rfl 61 _ _ rfl _ _ rfl rfl 61 _ (heap_alloc_new _ _) (by kernel_rfl) rfl (by simp [Value.oneCell']) ?_; rw [setRow_alloc]) | ((with_reducible refine gate_load 61 rfl ?_); refine load_row_g (by rfl) 61 _ rfl _ rfl 61 _ _ _ HBX.out Try.underlying61 rfl (by kernel_rfl) ?_) | (go_at_call 76; refine (KM.out _).mono ?_; rintro e w2 ⟨rfl, hb2⟩; have HB' := Lib.hid (below_step HB.out hb2); clear HB; have HB := HB'; clear HB'; have HBX' := Lib.hid ((hb2.block _ HLT.out).trans HBX.out); clear HBX; have HBX := HBX'; clear HBX'; have HLT' := Lib.hid (Nat.lt_of_lt_of_le HLT.out hb2.size); clear HLT; have HLT := HLT'; clear HLT'; have HM' := Lib.hid (HM.out.later hb2); clear HM; have HM := HM'; clear HM' hb2; have hcz1 := box_cell HBX.out 1 _ rfl) | (go_at_call 77; refine (KL.out _).mono ?_; rintro e w2 ⟨rfl, hb2⟩; have HB' := Lib.hid (below_step HB.out hb2); clear HB; have HB := HB'; clear HB'; have HBX' := Lib.hid ((hb2.block _ HLT.out).trans HBX.out); clear HBX; have HBX := HBX'; clear HBX'; have HLT' := Lib.hid (Nat.lt_of_lt_of_le HLT.out hb2.size); clear HLT; have HLT := HLT'; clear HLT'; have HM' := Lib.hid (HM.out.later hb2); clear HM; have HM := HM'; clear HM' hb2; have hcz1 := box_cell HBX.out 1 _ rfl) | (go_at_call 80; refine (KO.out _).mono ?_; rintro e w2 ⟨rfl, hb2⟩; have HB' := Lib.hid (below_step HB.out hb2); clear HB; have HB := HB'; clear HB'; have HBX' := Lib.hid ((hb2.block _ HLT.out).trans HBX.out); clear HBX; have HBX := HBX'; clear HBX'; have HLT' := Lib.hid (Nat.lt_of_lt_of_le HLT.out hb2.size); clear HLT; have HLT := HLT'; clear HLT'; have HM' := Lib.hid (HM.out.later hb2); clear HM; have HM := HM'; clear HM' hb2; have hcz1 := box_cell HBX.out 1 _ rfl) | (at_lookup; refine wpList_lookI (by rfl) _ _ 147 139 3 rfl keyWhat Try.underlying147 zeroInt HM.out ky rfl rfl cnt HCN.out ?_))
                all_goals first
                  | (exfalso; omega)
                  | exact ⟨⟨i + 1, m, by omega, by go_num, by rw [HN1.out], Lib.hid (OKA.out (fun h => by rw [HEQ.out.2.1] at h; cases h)), Lib.hid (metM_next_l HMM.out (by rw [HY.out]; exact HEQ.out.2.1)), HM, HB⟩, by simp only [intOf]; omega⟩
            · have hnone : ∀ j, j < i → lau (l.getD j z61) = false → ofO (l.getD j z61) ≠ ofO y := fun j j1 j2 j3 => absurd (HC2.out.2 ⟨j, j1, j2, by rw [j3]; exact HEQ.out.2.2⟩) (by omega)
              have HNN := Lib.hid hnone
              clear hnone
              cases b2 with
              | true =>
                go_wp2_with (first | ((with_reducible refine gate_load 61 rfl ?_); refine wpList_load_any rfl 61 _ rfl _ rfl _ _ HCC.out Try.underlying61 rfl (by kernel_rfl) ?_) | ((with_reducible refine gate_storeT 61 rfl ?_); refine wpList_store_row rfl 61 _ _ rfl _ _ rfl rfl 61 _ (heap_alloc_new _ _) (by kernel_rfl) rfl (by simp [Value.oneCell']) ?_; rw [setRow_alloc]) | ((with_reducible refine gate_load 61 rfl ?_); refine load_row_g (by rfl) 61 _ rfl _ rfl 61 _ _ _ HBX.out Try.underlying61 rfl (by kernel_rfl) ?_) | (go_at_call 76; refine (KM.out _).mono ?_; rintro e w2 ⟨rfl, hb2⟩; have HB' := Lib.hid (below_step HB.out hb2); clear HB; have HB := HB'; clear HB'; have HBX' := Lib.hid ((hb2.block _ HLT.out).trans HBX.out); clear HBX; have HBX := HBX'; clear HBX'; have HLT' := Lib.hid (Nat.lt_of_lt_of_le HLT.out hb2.size); clear HLT; have HLT := HLT'; clear HLT'; have HM' := Lib.hid (HM.out.later hb2); clear HM; have HM := HM'; clear HM' hb2; have hcz1 := box_cell HBX.out 1 _ rfl) | (go_at_call 77; refine (KL.out _).mono ?_; rintro e w2 ⟨rfl, hb2⟩; have HB' := Lib.hid (below_step HB.out hb2); clear HB; have HB := HB'; clear HB'; have HBX' := Lib.hid ((hb2.block _ HLT.out).trans HBX.out); clear HBX; have HBX := HBX'; clear HBX'; have HLT' := Lib.hid (Nat.lt_of_lt_of_le HLT.out hb2.size); clear HLT; have HLT := HLT'; clear HLT'; have HM' := Lib.hid (HM.out.later hb2); clear HM; have HM := HM'; clear HM' hb2; have hcz1 := box_cell HBX.out 1 _ rfl) | (go_at_call 80; refine (KO.out _).mono ?_; rintro e w2 ⟨rfl, hb2⟩; have HB' := Lib.hid (below_step HB.out hb2); clear HB; have HB := HB'; clear HB'; have HBX' := Lib.hid ((hb2.block _ HLT.out).trans HBX.out); clear HBX; have HBX := HBX'; clear HBX'; have HLT' := Lib.hid (Nat.lt_of_lt_of_le HLT.out hb2.size); clear HLT; have HLT := HLT'; clear HLT'; have HM' := Lib.hid (HM.out.later hb2); clear HM; have HM := HM'; clear HM' hb2; have hcz1 := box_cell HBX.out 1 _ rfl) | (at_lookup; refine wpList_lookI (by rfl) _ _ 147 139 3 rfl keyWhat Try.underlying147 zeroInt HM.out ky rfl rfl cnt HCN.out ?_))
                all_goals first
                  | (exfalso; omega)
                  | exact ⟨⟨i + 1, m, by omega, by go_num, by rw [HN1.out], Lib.hid (OKA.out (fun h => by rw [HEQ.out.2.1] at h; cases h)), Lib.hid (metM_next_l HMM.out (by rw [HY.out]; exact HEQ.out.2.1)), HM, HB⟩, by simp only [intOf]; omega⟩
              | false =>
                go_wp2_with (first | ((with_reducible refine gate_load 61 rfl ?_); refine wpList_load_any rfl 61 _ rfl _ rfl _ _ HCC.out Try.underlying61 rfl (by kernel_rfl) ?_) | ((with_reducible refine gate_storeT 61 rfl ?_); refine wpList_store_row rfl 61 _ _ rfl _ _ rfl rfl 61 _ (heap_alloc_new _ _) (by kernel_rfl) rfl (by simp [Value.oneCell']) ?_; rw [setRow_alloc]) | ((with_reducible refine gate_load 61 rfl ?_); refine load_row_g (by rfl) 61 _ rfl _ rfl 61 _ _ _ HBX.out Try.underlying61 rfl (by kernel_rfl) ?_) | (go_at_call 76; refine (KM.out _).mono ?_; rintro e w2 ⟨rfl, hb2⟩; have HB' := Lib.hid (below_step HB.out hb2); clear HB; have HB := HB'; clear HB'; have HBX' := Lib.hid ((hb2.block _ HLT.out).trans HBX.out); clear HBX; have HBX := HBX'; clear HBX'; have HLT' := Lib.hid (Nat.lt_of_lt_of_le HLT.out hb2.size); clear HLT; have HLT := HLT'; clear HLT'; have HM' := Lib.hid (HM.out.later hb2); clear HM; have HM := HM'; clear HM' hb2; have hcz1 := box_cell HBX.out 1 _ rfl) | (go_at_call 77; refine (KL.out _).mono ?_; rintro e w2 ⟨rfl, hb2⟩; have HB' := Lib.hid (below_step HB.out hb2); clear HB; have HB := HB'; clear HB'; have HBX' := Lib.hid ((hb2.block _ HLT.out).trans HBX.out); clear HBX; have HBX := HBX'; clear HBX'; have HLT' := Lib.hid (Nat.lt_of_lt_of_le HLT.out hb2.size); clear HLT; have HLT := HLT'; clear HLT'; have HM' := Lib.hid (HM.out.later hb2); clear HM; have HM := HM'; clear HM' hb2; have hcz1 := box_cell HBX.out 1 _ rfl) | (go_at_call 80; refine (KO.out _).mono ?_; rintro e w2 ⟨rfl, hb2⟩; have HB' := Lib.hid (below_step HB.out hb2); clear HB; have HB := HB'; clear HB'; have HBX' := Lib.hid ((hb2.block _ HLT.out).trans HBX.out); clear HBX; have HBX := HBX'; clear HBX'; have HLT' := Lib.hid (Nat.lt_of_lt_of_le HLT.out hb2.size); clear HLT; have HLT := HLT'; clear HLT'; have HM' := Lib.hid (HM.out.later hb2); clear HM; have HM := HM'; clear HM' hb2; have hcz1 := box_cell HBX.out 1 _ rfl) | (at_lookup; refine wpList_lookI (by rfl) _ _ 147 139 3 rfl keyWhat Try.underlying147 zeroInt HM.out ky rfl rfl cnt HCN.out ?_))
                all_goals first
                  | (exfalso; omega)
                  | skip
                have w3e : IntKind.i64.wrap (cnt + 1) = cnt + 1 := by rw [IntKind.wrap_i64]; omega
                have hcz0 := box_cell HBX.out 0 _ rfl
                have hcz2 := box_cell HBX.out 2 _ rfl
                have hcz3 := box_cell HBX.out 3 _ rfl
                have hcz4 := box_cell HBX.out 4 _ rfl
                have hcz5 := box_cell HBX.out 5 _ rfl
                have hcz6 := box_cell HBX.out 6 _ rfl
                have hcz7 := box_cell HBX.out 7 _ rfl
                have hcz8 := box_cell HBX.out 8 _ rfl
                go_region_with ((go_at_call 80; refine (KO.out _).mono ?_; rintro e w3 ⟨rfl, hb3'⟩; have hb3 := below_of_drew hb3'; have HM3 := MapR.later HM.out hb3; obtain ⟨v4, st, w4, he1, he2, he3, he4, he5⟩ := MapR.entry (t := 147) keyWhat Try.underlying147 zeroInt HM3 ky; have he6 : v4 = cnt := he2.trans HCN.out; subst he6; obtain ⟨w5, hs1, hs2, hs3⟩ := he5 w4 (v4 + 1) rfl; have hl1 := HM3.lookI (t := 147) keyWhat Try.underlying147 zeroInt ky; rw [HCN.out] at hl1; have hl2 := he3.lookI (t := 147) keyWhat Try.underlying147 zeroInt ky; rw [lookL_setL, if_pos rfl, Option.getD_some] at hl2; have hs1' : (Instr.entryStore 147 (.map (some w.heap.size)) (.int .i64 (st : Int)) (.int .i64 (v4 + 1))).run Try.prog w4 = .ok () w5 := hs1; have he1' : (Instr.mapEntry 147 (.map (some w.heap.size)) (encW ky)).run Try.prog w3 = .ok (.tuple #[.int .i64 v4, .int .i64 (st : Int)]) w4 := he1; have HM5 := Lib.hid hs2; have HBB := Lib.hid (below_step HB.out hb3); have HB5 := Lib.hid ((HBB.out.grown he4 HBB.out.size (fun k hk => by cases hk; exact Nat.le_refl _))); have HB6 := Lib.hid (HB5.out.grown hs3 HB5.out.size (fun k hk => by cases hk; exact Nat.le_refl _)); clear hb3 hb3' HM3 he2 he3 he4 he5 hs2 hs3 HBB HB5 hs1 he1))
                all_goals
                  go_wp2
                  exact ⟨⟨i + 1, setL m ky (v4 + 1), by omega, by go_num, by rw [HN1.out], Lib.hid (OKA.out (fun _ => HNN.out)), Lib.hid (by have h9 := metM_next (x := v4 + 1) HMM.out (by rw [HY.out]; exact HEQ.out.2.1) (by rw [HY.out, HEQ.out.2.2, HCN.out]); rw [HY.out, HEQ.out.2.2] at h9; exact h9), HM5, HB6⟩, by simp only [intOf]; omega⟩
    · have : i = n := by omega
      subst this
      go_wp2_with (first | (go_at_call 81; refine (KLS.out _ HB.out).mono ?_; rintro e w2 ⟨rfl, hb2⟩; have HB' := Lib.hid (below_step HB.out hb2); clear HB; have HB := HB'; clear HB' hb2))
      go_ret
      refine ⟨.b rfl ?_, HB.out⟩
      rw [decide_eq_true_iff]
      unfold MayL
      refine ⟨fun h => ⟨fun j hj => HD.out j (by rw [HN.out] at hj; exact hj), by omega⟩, fun h => by have := h.2; omega⟩
end Go.Proofs.Ytaoflcmjmhfblaa.Q
