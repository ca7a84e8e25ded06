/- batch.Find. -/
import Derived.Test.YtaoflcmjmhfblaaBaApp
namespace Go.Proofs.Ytaoflcmjmhfblaa.D
open Go.RowKit Go.Proofs.YtaoflcmjmhfblaaW.PrintWords Go.Proofs.YtaoflcmjmhfblaaW.PrintLast Go.Proofs.YtaoflcmjmhfblaaW.PrintMore Go.Proofs.Ytaoflcmjmhfblaa.H Go.Shelf
set_option linter.unusedVariables false
set_option linter.unusedSimpArgs false
theorem find1_calls (x : ByteArray) (A : Option Addr) (n c : Nat) (k : ByteArray) (w : World) :
    Calls Try.prog 113 #[.agg #[.string x, .slice A n c], .string k] w fun e w' => e = .returned (.int .i64 (cmpL x k)) ∧ Below w.heap.size w w' := by
  obtain ⟨r, hr⟩ : ∃ r, cmpL x k = r := ⟨_, rfl⟩
  have K := Lib.hid (fun W => cmpL_calls x k W)
  rw [hr] at K ⊢
  clear hr
  go_enter Try.func113, Try.ntmps113
  go_wp2_with (first | (go_at_call 114; refine (K.out _).mono ?_; rintro e w2 ⟨rfl, rfl⟩))
  go_ret
  exact ⟨rfl, (Below.refl _ _).alloc (Nat.le_refl _) _⟩
theorem ret_ib {ka : IntKind} {a : Int} {c d : Bool} (k : c = d) : Ending.returned (.tuple #[.int ka a, .bool c]) = .returned (.tuple #[.int ka a, .bool d]) := by rw [k]
/-- Where a search by halves ends. -/
def SearchAt (l : List RowS) (k : ByteArray) (i : Nat) : Prop := i ≤ l.length ∧ (i = 0 ∨ cmpL (keyR l (i - 1)) k < 0) ∧ (i = l.length ∨ 0 ≤ cmpL (keyR l i) k)
set_option maxHeartbeats 2000000 in
set_option maxRecDepth 100000 in
theorem search_calls (A : Option Addr) (c : Nat) (l : List RowS) (k : ByteArray) (w : World) (h : Kd.C kRow w A l.length l) (hl : l.length ≤ 140737488355328) :
    Calls Try.prog 112 #[.slice A l.length c, .string k, .func (.func 113) #[] #[]] w fun e w' => ∃ i : Nat, e = .returned (.tuple #[.int .i64 i, .bool (decide (i < l.length ∧ cmpL (keyR l i) k = 0))]) ∧ SearchAt l k i ∧ Below w.heap.size w w' := by
  unfold SearchAt
  obtain ⟨n, hn⟩ : ∃ n, l.length = n := ⟨_, rfl⟩
  rw [hn] at h hl ⊢
  have H := Lib.hid h
  have HN := Lib.hid hn
  clear h hn
  have hel : ∀ (W : World) (i : Nat), Below w.heap.size w W → i < n → ∃ ad A1 c1, A = some ad ∧ ∀ j v, (#[.string (keyR l i), .slice A1 (lenR l i) c1] : Array Value).toList[j]? = some v → W.cell? ((ad.add (i * 2)).add j) = some v := by
    intro W i hW hi
    obtain ⟨ad, cs, ea, _, hcs, hcc⟩ := Kd.C_get (Kd.C_below H.out hW) z161 (i : Int) (by omega) (by omega)
    rw [Int.toNat_natCast] at hcs hcc
    obtain ⟨A3, c3, rfl, hl3, hC3⟩ := k161_open hcs
    exact ⟨ad, A3, c3, ea, fun j v hv => by rw [add_add]; exact hcc j v hv⟩
  have HEL := Lib.hid hel
  clear hel
  go_enter Try.func112, Try.ntmps112
  go_wp2
  go_loopg [9, 10] n (fun gg v9 v10 wr => ∃ (i j : Nat), i ≤ j ∧ j ≤ n ∧ j - i ≤ gg ∧ v9 = .int .i64 i ∧ v10 = .int .i64 j ∧ Hid (i = 0 ∨ cmpL (keyR l (i - 1)) k < 0) ∧ Hid (j = n ∨ 0 ≤ cmpL (keyR l j) k) ∧ Hid (Below w.heap.size w wr))
  case atStart => exact ⟨0, n, Nat.zero_le _, Nat.le_refl _, by omega, rfl, rfl, Lib.hid (Or.inl rfl), Lib.hid (Or.inl rfl), Lib.hid (Below.refl _ _)⟩
  case round =>
    obtain ⟨i, j, hij, hjn, hg, rfl, rfl, HL, HU, HB⟩ := hrel
    by_cases hlt : i < j
    · have hltz : (i : Int) < (j : Int) := by omega
      obtain ⟨m, hm⟩ : ∃ m, (i + j) / 2 = m := ⟨_, rfl⟩
      have hmi : i ≤ m := by omega
      have hmj : m < j := by omega
      have w1 : IntKind.i64.wrap ((i : Int) + (j : Int)) = (i : Int) + (j : Int) := by rw [IntKind.wrap_i64]; omega
      have w2 : IntKind.u64.wrap ((i : Int) + (j : Int)) = (i : Int) + (j : Int) := by rw [IntKind.wrap_u64]; omega
      have hmz : ((i : Int) + (j : Int)) / 2 = (m : Int) := by omega
      have hmn : (m : Int) < (n : Int) := by omega
      have wm : IntKind.i64.wrap ((m : Int) + 1) = (m : Int) + 1 := by rw [IntKind.wrap_i64]; omega
      obtain ⟨ad, A1, c1, rfl, hc⟩ := HEL.out wr m HB.out (by omega)
      have HC := Lib.hid hc
      clear hc hm
      obtain ⟨r, hr⟩ : ∃ r, cmpL (keyR l m) k = r := ⟨_, rfl⟩
      have K := Lib.hid (fun W => find1_calls (keyR l m) A1 (lenR l m) c1 k W)
      rw [hr] at K
      have HR := Lib.hid hr
      clear hr
      by_cases hneg : r < 0
      · go_wp2_with (first
          | ((with_reducible refine gate_load 161 rfl ?_); refine wpList_load_any rfl 161 _ rfl _ rfl _ _ HC.out Try.underlying161 rfl (by kernel_rfl) ?_)
          | (go_at_call 113; refine (K.out _).mono ?_; rintro e w2 ⟨rfl, hb2⟩; have HB2 := Lib.hid (below_step HB.out hb2); clear hb2))
        go_roundg (j - (m + 1))
        case measure => omega
        case rel => exact ⟨m + 1, j, by omega, hjn, Nat.le_refl _, by go_num, rfl, Lib.hid (Or.inr (by rw [Nat.add_sub_cancel, HR.out]; exact hneg)), HU, HB2⟩
      · go_wp2_with (first
          | ((with_reducible refine gate_load 161 rfl ?_); refine wpList_load_any rfl 161 _ rfl _ rfl _ _ HC.out Try.underlying161 rfl (by kernel_rfl) ?_)
          | (go_at_call 113; refine (K.out _).mono ?_; rintro e w2 ⟨rfl, hb2⟩; have HB2 := Lib.hid (below_step HB.out hb2); clear hb2))
        go_roundg (m - i)
        case measure => omega
        case rel => exact ⟨i, m, hmi, by omega, Nat.le_refl _, rfl, rfl, HL, Lib.hid (Or.inr (by rw [HR.out]; omega)), HB2⟩
    · have hji : i = j := by omega
      subst hji
      by_cases hin : i < n
      · have hinz : (i : Int) < (n : Int) := by omega
        obtain ⟨ad, A1, c1, rfl, hc⟩ := HEL.out wr i HB.out hin
        have hx0 := hc 0 _ rfl
        rw [addr_add0] at hx0
        have hx1 := hc 1 _ rfl
        replace hx1 : wr.cell? ⟨(ad.add (i * 2)).block, (ad.add (i * 2)).off + 1, none⟩ = some (.slice A1 (lenR l i) c1) := by simpa [Addr.add] using hx1
        obtain ⟨r, hr⟩ : ∃ r, cmpL (keyR l i) k = r := ⟨_, rfl⟩
        have K := Lib.hid (fun W => find1_calls (keyR l i) A1 (lenR l i) c1 k W)
        rw [hr] at K
        have HR := Lib.hid hr
        clear hr hc
        go_wp2_with (first
          | (go_at_call 113; refine (K.out _).mono ?_; rintro e w2 ⟨rfl, hb2⟩; have HB2 := Lib.hid (below_step HB.out hb2); clear hb2))
        go_ret2
        exact ⟨i, ret_ib (by rw [HR.out]; simp only [hin, true_and]; rfl), ⟨hjn, HL.out, HU.out⟩, HB2.out⟩
      · have hie : i = n := by omega
        subst hie
        go_wp2_with (fail)
        go_ret2
        exact ⟨i, ret_ib (by simp), ⟨hjn, HL.out, Or.inl rfl⟩, HB.out⟩
theorem mayR_step {l : List RowS} (h : mayR l = true) (i : Nat) (hi : i + 1 < l.length) : cmpL (keyR l i) (keyR l (i + 1)) < 0 := by
  unfold mayR risingI at h
  rw [List.all_eq_true] at h
  have := h (i + 1) (List.mem_range.2 hi)
  simp only [okAt, Bool.and_eq_true, Bool.or_eq_true, Nat.add_sub_cancel] at this
  have h2 := this.1.2
  rcases h2 with h2 | h2
  · simp at h2
  · rw [less_eq] at h2
    exact cmpL_lt.2 (of_decide_eq_true h2)
theorem mayR_lt {l : List RowS} (h : mayR l = true) : ∀ (d i : Nat), i + d + 1 < l.length → cmpL (keyR l i) (keyR l (i + d + 1)) < 0
  | 0, i, hi => mayR_step h i hi
  | d + 1, i, hi => by
    have h1 := mayR_lt h d i (by omega)
    have h2 := mayR_step h (i + d + 1) (by omega)
    rw [cmpL_lt] at *
    exact lists_trans h1 h2
theorem mayR_lt' {l : List RowS} (h : mayR l = true) {i j : Nat} (hij : i < j) (hj : j < l.length) : cmpL (keyR l i) (keyR l j) < 0 := by
  have := mayR_lt h (j - i - 1) i (by omega)
  rwa [show i + (j - i - 1) + 1 = j by omega] at this
def findR (l : List RowS) (k : ByteArray) : Option RowS := l.find? (fun x => decide (x.f0 = k))
theorem keyR_get {l : List RowS} {i : Nat} (hi : i < l.length) : keyR l i = l[i].f0 := by
  unfold keyR; rw [List.getD_eq_getElem?_getD, List.getElem?_eq_getElem hi]; rfl
theorem search_find {l : List RowS} {k : ByteArray} {i : Nat} (h : mayR l = true) (hs : SearchAt l k i) :
    (∃ hi : i < l.length, cmpL (keyR l i) k = 0 ∧ findR l k = some l[i]) ∨ (decide (i < l.length ∧ cmpL (keyR l i) k = 0) = false ∧ findR l k = none) := by
  obtain ⟨h1, h2, h3⟩ := hs
  by_cases hi : i < l.length ∧ cmpL (keyR l i) k = 0
  · obtain ⟨hi, hk⟩ := hi
    left
    refine ⟨hi, hk, ?_⟩
    unfold findR
    rw [List.find?_eq_some_iff_getElem]
    have e : l[i].f0 = k := by rw [← keyR_get hi]; exact cmpL_zero.1 hk
    refine ⟨decide_eq_true e, i, hi, rfl, fun j hj => ?_⟩
    have h4 := mayR_lt' h hj hi
    simp only [Bool.not_eq_true', decide_eq_false_iff_not]
    intro e2
    rw [keyR_get hi, keyR_get (by omega), e, e2] at h4
    rw [cmpL_lt] at h4
    exact lists_irr _ h4
  · right
    refine ⟨decide_eq_false hi, ?_⟩
    unfold findR
    rw [List.find?_eq_none]
    intro x hx e
    obtain ⟨j, hj, rfl⟩ := List.mem_iff_getElem.1 hx
    have e := of_decide_eq_true e
    rcases Nat.lt_trichotomy j i with hji | hji | hji
    · rcases h2 with h2 | h2
      · omega
      · have h4 : cmpL (keyR l j) k < 0 := by
          rcases Nat.lt_or_ge j (i - 1) with h5 | h5
          · have h6 := mayR_lt' h h5 (by omega)
            rw [cmpL_lt] at *
            exact lists_trans h6 h2
          · have : j = i - 1 := by omega
            rw [this]; exact h2
        rw [keyR_get hj, e, cmpL_lt] at h4
        exact lists_irr _ h4
    · subst hji
      exact hi ⟨hj, by rw [keyR_get hj, e]; exact cmpL_zero.2 rfl⟩
    · have h4 := mayR_lt' h hji hj
      rcases h3 with h3 | h3
      · omega
      · rw [keyR_get hj, e] at h4
        omega
def batch_Find.f (l0 : List RowS) (a1 : ByteArray) : Option (List Int × Bool) :=
  if l0.length ≤ 140737488355328 then some (if mayR l0 then (match findR l0 a1 with | some x => (x.f1, true) | none => ([], false)) else ([], false)) else none
set_option maxHeartbeats 2000000 in
set_option maxRecDepth 100000 in
theorem batch_Find.calls (A0 : Option Addr) (c0 : Nat) (l0 : List RowS) (a1 : ByteArray) (r1 : List Int) (r2 : Bool) (w : World) (hr0 : Kd.C kRow w A0 l0.length l0) (hc0 : l0.length ≤ c0) (h : batch_Find.f l0 a1 = some (r1, r2)) :
    Calls Try.prog 43 #[.slice A0 l0.length c0, .string a1] w fun e w' => ∃ v0_ : Value, e = .returned (.tuple #[v0_, .bool r2]) ∧ Kd.R (Kd.int .u8) 5 w' w.heap.size (fun _ => True) v0_ r1 ∧ Below w.heap.size w w' := by
  unfold batch_Find.f at h
  by_cases hsz : l0.length ≤ 140737488355328
  case neg => rw [if_neg hsz] at h; cases h
  rw [if_pos hsz] at h
  have h := Option.some.inj h
  have K1 := Lib.hid (search_calls A0 c0 l0 a1 w hr0 hsz)
  have K2 := Lib.hid (fun W (hW : Below w.heap.size w W) => batch_May.calls A0 c0 l0 (mayR l0) W (Kd.C_below hr0 hW) hc0 rfl)
  have H := Lib.hid h
  have HC := Lib.hid hr0
  clear h hr0 hsz
  have hm := Kd.C_max HC.out
  obtain ⟨n, hn⟩ : ∃ n, l0.length = n := ⟨_, rfl⟩
  have HN := Lib.hid hn
  rw [hn] at K1 K2 HC hm ⊢
  clear hn hc0
  go_enter Try.func43, Try.ntmps43
  go_upto_region 2 with (first
    | (go_at_call 112; refine K1.out.mono ?_; rintro e w1 ⟨i, rfl, hs, hb⟩; obtain ⟨b, hbb⟩ : ∃ b, decide (i < n ∧ cmpL (keyR l0 i) a1 = 0) = b := ⟨_, rfl⟩; rw [hbb]; have HBB := Lib.hid hbb; have HS := Lib.hid hs; have HB := Lib.hid hb; clear hbb hs hb))
  cases b with
  | false =>
    have e : (r1, r2) = (([] : List Int), false) := by
      rw [← H.out]
      by_cases hm : mayR l0 = true
      · rw [if_pos hm]
        rcases search_find hm HS.out with ⟨hi, h1, h2⟩ | ⟨h1, h2⟩
        · have := HBB.out
          rw [← HN.out] at this
          exact absurd ⟨hi, h1⟩ (of_decide_eq_false this)
        · rw [h2]
      · rw [if_neg hm]
    injection e with e1 e2
    subst e1
    subst e2
    clear HBB HS H HN
    go_wp2_with (fail)
    go_ret2
    exact ⟨_, rfl, Kd.R_nil _ _ _ _ _, HB.out⟩
  | true =>
    have hi := (of_decide_eq_true HBB.out).1
    have hcz := (of_decide_eq_true HBB.out).2
    have K2' := Lib.hid (K2.out w1 HB.out)
    obtain ⟨m, hmm⟩ : ∃ m, mayR l0 = m := ⟨_, rfl⟩
    rw [hmm] at K2'
    cases m with
    | false =>
      have e : (r1, r2) = (([] : List Int), false) := by rw [← H.out, hmm]; rfl
      injection e with e1 e2
      subst e1
      subst e2
      clear HBB HS H HN K2 hmm hcz
      go_wp2_with (first | (go_at_call 46; refine K2'.out.mono ?_; rintro e w2 ⟨rfl, hb2⟩; have HB2 := Lib.hid (below_step HB.out hb2); clear hb2))
      go_ret2
      exact ⟨_, rfl, Kd.R_nil _ _ _ _ _, HB2.out⟩
    | true =>
      have hin : i < l0.length := by rw [HN.out]; exact hi
      have e : (r1, r2) = ((l0[i]).f1, true) := by
        rw [← H.out, if_pos hmm]
        rcases search_find hmm HS.out with ⟨hi', h1, h2⟩ | ⟨h1, h2⟩
        · rw [h2]
        · have := HBB.out
          rw [← HN.out, h1] at this
          cases this
      injection e with e1 e2
      subst e1
      subst e2
      have hlen : (l0[i]).f1.length ≤ 524288 := mayR_len hmm _ (List.getElem_mem hin)
      obtain ⟨ad, A1, c1, hA, x0, x1, hl1, hc1⟩ := at_T161 HC.out (i : Int) (by omega) (by omega)
      have hrd : rd_T161 l0 i = l0[i] := by unfold rd_T161; rw [Int.toNat_natCast, List.getD_eq_getElem?_getD, List.getElem?_eq_getElem hin]; rfl
      rw [hrd] at x0 x1 hl1 hc1
      rw [Int.toNat_natCast] at x0 x1
      have HX := Lib.hid (fun W (hW : Below w.heap.size w W) => (hW.cell (World.block_lt_of_cell? w _ x1)).trans x1)
      have KC := Lib.hid (fun W (hW : Below w.heap.size w W) => clone_calls A1 c1 (l0[i]).f1 W (Kd.C_below hc1 hW) (by omega))
      obtain ⟨V, hV⟩ : ∃ V, (l0[i]).f1 = V := ⟨_, rfl⟩
      rw [hV] at HX KC
      have HVV := Lib.hid hV
      have hiz : (i : Int) < (n : Int) := by omega
      subst hA
      clear HBB HS H HN K2 hmm hcz x0 x1 hl1 hc1 hrd hlen hV
      go_wp2_with (first
        | (go_at_call 46; refine K2'.out.mono ?_; rintro e w2 ⟨rfl, hb2⟩; have HB2 := Lib.hid (below_step HB.out hb2); have hx2 := HX.out _ HB2.out; clear hb2)
        | (go_at_call 103; refine (KC.out _ HB2.out).mono ?_; rintro e w3 ⟨v3, rfl, ho3, hb3⟩; have HO3 := Lib.hid (Kd.R_lower ho3 HB2.out.size); have HB3 := Lib.hid (below_step HB2.out hb3); clear hb3 ho3))
      go_ret2
      exact ⟨_, rfl, by rw [HVV.out]; exact HO3.out, HB3.out⟩
end Go.Proofs.Ytaoflcmjmhfblaa.D
