/- batch.May, batch.MayChange. -/
import Derived.Test.YtaoflcmjmhfblaaBaRise
import Derived.Test.YtaoflcmjmhfblaaCmp
namespace Go.Proofs.Ytaoflcmjmhfblaa.D
open Go.RowKit Go.Proofs.YtaoflcmjmhfblaaW.PrintWords Go.Proofs.YtaoflcmjmhfblaaW.PrintLast Go.Proofs.YtaoflcmjmhfblaaW.PrintMore Go.Proofs.Ytaoflcmjmhfblaa.H Go.Shelf
set_option linter.unusedVariables false
set_option linter.unusedSimpArgs false
abbrev RowS := S161
abbrev ChgS := S96
abbrev kRow := k161
abbrev kChg := k96
def keyR (l : List RowS) (i : Nat) : ByteArray := (l.getD i z161).f0
def lenR (l : List RowS) (i : Nat) : Nat := (l.getD i z161).f1.length
def keyC (l : List ChgS) (i : Nat) : ByteArray := (l.getD i z96).f0
def lenC (l : List ChgS) (i : Nat) : Nat := (l.getD i z96).f1.length
theorem may1_calls (A : Option Addr) (n c : Nat) (l : List RowS) (gb : Nat) (i : Nat) (w : World) (hi : i < n) (hn : (n : Int) ≤ 9223372036854775807) (hc : w.cell? ⟨gb, 0, none⟩ = some (.slice A n c)) (h : Kd.C kRow w A n l) :
    Calls Try.prog 115 #[.int .i64 (i : Int), .pointer (some ⟨gb, 0, none⟩)] w fun e w' => e = .returned (.string (keyR l i)) ∧ Below w.heap.size w w' := by
  obtain ⟨ad, A1, c1, rfl, x0, x1, _, _⟩ := at_T161 h (i : Int) (by omega) (by omega)
  obtain ⟨k, hk⟩ : ∃ k, (rd_T161 l i).f0 = k := ⟨_, rfl⟩
  have hk' : keyR l i = k := by rw [← hk]; rfl
  rw [hk', ] 
  rw [hk] at x0
  clear x1 h hk hk'
  have hiz : (i : Int) < (n : Int) := by omega
  rw [Int.toNat_natCast] at x0
  go_enter Try.func115, Try.ntmps115
  go_wp2_with (fail)
  go_ret
  exact ⟨rfl, Below.refl _ _⟩
theorem may2_calls (A : Option Addr) (n c : Nat) (l : List RowS) (gb : Nat) (i : Nat) (w : World) (hi : i < n) (hn : (n : Int) ≤ 9223372036854775807) (hc : w.cell? ⟨gb, 0, none⟩ = some (.slice A n c)) (h : Kd.C kRow w A n l) :
    Calls Try.prog 116 #[.int .i64 (i : Int), .pointer (some ⟨gb, 0, none⟩)] w fun e w' => ∃ A' c', e = .returned (.slice A' (lenR l i) c') ∧ Below w.heap.size w w' := by
  obtain ⟨ad, A1, c1, rfl, x0, x1, _, _⟩ := at_T161 h (i : Int) (by omega) (by omega)
  obtain ⟨k, hk⟩ : ∃ k, (rd_T161 l i).f1.length = k := ⟨_, rfl⟩
  have hk' : lenR l i = k := by rw [← hk]; rfl
  rw [hk']
  rw [hk] at x1
  clear x0 h hk hk'
  have hiz : (i : Int) < (n : Int) := by omega
  rw [Int.toNat_natCast] at x1
  go_enter Try.func116, Try.ntmps116
  go_wp2_with (fail)
  go_ret
  exact ⟨_, _, rfl, Below.refl _ _⟩
theorem mayc2_calls (A : Option Addr) (n c : Nat) (l : List ChgS) (gb : Nat) (i : Nat) (w : World) (hi : i < n) (hn : (n : Int) ≤ 9223372036854775807) (hc : w.cell? ⟨gb, 0, none⟩ = some (.slice A n c)) (h : Kd.C kChg w A n l) :
    Calls Try.prog 95 #[.int .i64 (i : Int), .pointer (some ⟨gb, 0, none⟩)] w fun e w' => e = .returned (.string (keyC l i)) ∧ Below w.heap.size w w' := by
  obtain ⟨ad, A1, c1, rfl, x0, x1, _, _⟩ := at_T96 h (i : Int) (by omega) (by omega)
  obtain ⟨k, hk⟩ : ∃ k, (rd_T96 l i).f0 = k := ⟨_, rfl⟩
  have hk' : keyC l i = k := by rw [← hk]; rfl
  rw [hk']
  rw [hk] at x0
  clear x1 h hk hk'
  have hiz : (i : Int) < (n : Int) := by omega
  rw [Int.toNat_natCast] at x0
  go_enter Try.func95, Try.ntmps95
  go_wp2_with (fail)
  go_ret
  exact ⟨rfl, Below.refl _ _⟩
theorem mayc3_calls (A : Option Addr) (n c : Nat) (l : List ChgS) (gb : Nat) (i : Nat) (w : World) (hi : i < n) (hn : (n : Int) ≤ 9223372036854775807) (hc : w.cell? ⟨gb, 0, none⟩ = some (.slice A n c)) (h : Kd.C kChg w A n l) :
    Calls Try.prog 96 #[.int .i64 (i : Int), .pointer (some ⟨gb, 0, none⟩)] w fun e w' => ∃ A' c', e = .returned (.slice A' (lenC l i) c') ∧ Below w.heap.size w w' := by
  obtain ⟨ad, A1, c1, rfl, x0, x1, _, _⟩ := at_T96 h (i : Int) (by omega) (by omega)
  obtain ⟨k, hk⟩ : ∃ k, (rd_T96 l i).f1.length = k := ⟨_, rfl⟩
  have hk' : lenC l i = k := by rw [← hk]; rfl
  rw [hk']
  rw [hk] at x1
  clear x0 h hk hk'
  have hiz : (i : Int) < (n : Int) := by omega
  rw [Int.toNat_natCast] at x1
  go_enter Try.func96, Try.ntmps96
  go_wp2_with (fail)
  go_ret
  exact ⟨_, _, rfl, Below.refl _ _⟩
/-- batch.May. -/
def batch_May.f (l0 : List RowS) : Option Bool := some (risingI l0.length (keyR l0) (lenR l0))
theorem batch_May.calls (A0 : Option Addr) (c0 : Nat) (l0 : List RowS) (r : Bool) (w : World) (hr0 : Kd.C kRow w A0 l0.length l0) (hc0 : l0.length ≤ c0) (h : batch_May.f l0 = some r) :
    Calls Try.prog 46 #[.slice A0 l0.length c0] w fun e w' => e = .returned (.bool r) ∧ Below w.heap.size w w' := by
  have hm := Kd.C_max hr0
  obtain rfl := Option.some.inj h
  clear h
  have hb0 : Below w.heap.size w (w.alloc (.cells #[.slice A0 l0.length c0] 85 (0, 0))) := (Below.refl _ _).alloc (Nat.le_refl _) _
  have hcap : (w.alloc (.cells #[.slice A0 l0.length c0] 85 (0, 0))).cell? ⟨w.heap.size, 0, none⟩ = some (.slice A0 l0.length c0) := new_cell w _ _
  have hbk : ∀ W, Below (w.alloc (.cells #[.slice A0 l0.length c0] 85 (0, 0))).heap.size (w.alloc (.cells #[.slice A0 l0.length c0] 85 (0, 0))) W → Kd.C kRow W A0 l0.length l0 := fun W hW => Kd.C_below hr0 (below_step hb0 hW)
  have K := Lib.hid (rising_calls 115 116 #[.pointer (some ⟨w.heap.size, 0, none⟩)] #[.pointer (some ⟨w.heap.size, 0, none⟩)] (fun args w => by kernel_rfl) (fun args w => by kernel_rfl) l0.length (by omega) (keyR l0) (lenR l0) _
    (fun W i hi hW => may1_calls A0 l0.length c0 l0 _ i W hi (by omega) (cap_later hcap hW) (hbk W hW)) (fun W i hi hW => may2_calls A0 l0.length c0 l0 _ i W hi (by omega) (cap_later hcap hW) (hbk W hW)))
  have HB0 := Lib.hid hb0
  obtain ⟨R, hR⟩ : ∃ R, risingI l0.length (keyR l0) (lenR l0) = R := ⟨_, rfl⟩
  rw [hR] at K ⊢
  obtain ⟨n, hn⟩ : ∃ n, l0.length = n := ⟨_, rfl⟩
  rw [hn] at K hm HB0 hcap ⊢
  clear hbk hr0 hb0 hR hc0
  go_enter Try.func46, Try.ntmps46
  go_wp2_with (first | (go_at_call 94; refine K.out.mono ?_; rintro e w2 ⟨rfl, hb2⟩; have HB2 := Lib.hid hb2; clear hb2))
  go_ret
  exact ⟨rfl, below_step HB0.out HB2.out⟩
/-- .. of a change that is gone, nothing is put. -/
def badC (x : ChgS) : Bool := x.f2 && decide (0 < x.f1.length)
theorem mayc1_calls (k : ByteArray) (A : Option Addr) (n c : Nat) (b : Bool) (hn : (n : Int) ≤ 9223372036854775807) (w : World) :
    Calls Try.prog 93 #[.agg #[.string k, .slice A n c, .bool b]] w fun e w' => e = .returned (.bool (b && decide (0 < n))) ∧ Below w.heap.size w w' := by
  cases b with
  | false =>
    go_enter Try.func93, Try.ntmps93
    go_wp2_with (fail)
    go_ret
    exact ⟨rfl, (Below.refl _ _).alloc (Nat.le_refl _) _⟩
  | true =>
    rcases Nat.eq_zero_or_pos n with h | h
    · subst h
      go_enter Try.func93, Try.ntmps93
      go_wp2_with (fail)
      go_ret
      exact ⟨rfl, (Below.refl _ _).alloc (Nat.le_refl _) _⟩
    · have hz : (0 : Int) < (n : Int) := by omega
      have hd : decide (0 < n) = true := decide_eq_true h
      rw [hd]
      go_enter Try.func93, Try.ntmps93
      go_wp2_with (fail)
      go_ret
      exact ⟨ret_b (by simp), (Below.refl _ _).alloc (Nat.le_refl _) _⟩
set_option maxHeartbeats 2000000 in
set_option maxRecDepth 100000 in
theorem idxChg (A : Option Addr) (c : Nat) (l : List ChgS) (w : World) (h : Kd.C kChg w A l.length l) :
    Calls Try.prog 148 #[.slice A l.length c, .func (.func 93) #[] #[]] w fun e w' => e = .returned (.int .i64 (idxI badC l)) ∧ Below w.heap.size w w' := by
  have hm := Kd.C_max h
  obtain ⟨n, hn⟩ : ∃ n, l.length = n := ⟨_, rfl⟩
  rw [hn] at h hm ⊢
  have H := Lib.hid h
  have HN := Lib.hid hn
  clear h hn
  go_enter Try.func148, Try.ntmps148
  go_wp2
  go_loopg [5, 8] n (fun gg _ s8 wr => ∃ kk : Nat, kk ≤ n ∧ n - kk ≤ gg ∧ s8 = .int .i64 kk ∧ Hid (Below w.heap.size w wr) ∧ Hid (∀ j, j < kk → badC (l.getD j z96) = false))
  case atStart => exact ⟨0, Nat.zero_le _, by omega, rfl, Lib.hid (Below.refl _ w), Lib.hid (fun j hj => absurd hj (Nat.not_lt_zero _))⟩
  case round =>
    obtain ⟨kk, hkk, hg, rfl, BW, A1⟩ := hrel
    by_cases hlt : kk < n
    · have hltz : (kk : Int) < (n : Int) := by omega
      obtain ⟨ad, cs, ea, _, hcs, hcc⟩ := Kd.C_get (Kd.C_below H.out BW.out) z96 (kk : Int) (by omega) (by omega)
      subst ea
      rw [Int.toNat_natCast] at hcs hcc
      obtain ⟨A3, c3, rfl, hl3, hC3⟩ := k96_open hcs
      obtain ⟨y, hy⟩ : ∃ y, l.getD kk z96 = y := ⟨_, rfl⟩
      have hm3 := Kd.C_max hC3
      rw [hy] at hcc hl3 hC3 hm3
      have hcell : ∀ j v, (#[.string y.f0, .slice A3 y.f1.length c3, .bool y.f2] : Array Value).toList[j]? = some v → wr.cell? ((ad.add (kk * 3)).add j) = some v := fun j v hv => by rw [add_add]; exact hcc j v hv
      have HC := Lib.hid hcell
      have hcall := mayc1_calls y.f0 A3 y.f1.length c3 y.f2 (by omega) wr
      have B := Lib.hid hy
      have hlz : l[kk]? = some y := by rw [← hy, List.getD_eq_getElem?_getD, List.getElem?_eq_getElem (by rw [HN.out]; exact hlt)]; rfl
      have BZ := Lib.hid hlz
      clear hy hlz hcc hcs hcell hl3 hC3
      cases hq : badC y with
      | true =>
        have hq' : (y.f2 && decide (0 < y.f1.length)) = true := hq
        rw [hq'] at hcall
        have HQ := Lib.hid hq
        have HK := Lib.hid hcall
        clear hq hq' hcall hm3
        go_wp2_with (first | ((with_reducible refine gate_load 96 rfl ?_); refine wpList_load_any rfl 96 _ rfl _ rfl _ _ HC.out Try.underlying96 rfl (by kernel_rfl) ?_) | (go_at_call 93; refine HK.out.mono ?_; rintro e w' ⟨rfl, hb'⟩; have HB' := Lib.hid hb'; clear hb'))
        go_ret
        exact ⟨ret_i (idxI_hit badC l kk y BZ.out HQ.out (fun j hj => by rw [getD_any l j y z96 (by rw [HN.out]; omega)]; exact A1.out j hj)).symm, below_step BW.out HB'.out⟩
      | false =>
        have hq' : (y.f2 && decide (0 < y.f1.length)) = false := hq
        rw [hq'] at hcall
        have HQ := Lib.hid hq
        have HK := Lib.hid hcall
        clear hq hq' hcall hm3
        go_wp2_with (first | ((with_reducible refine gate_load 96 rfl ?_); refine wpList_load_any rfl 96 _ rfl _ rfl _ _ HC.out Try.underlying96 rfl (by kernel_rfl) ?_) | (go_at_call 93; refine HK.out.mono ?_; rintro e w' ⟨rfl, hb'⟩; have HB' := Lib.hid hb'; clear hb'))
        go_roundg (n - (kk + 1))
        case measure => omega
        case rel =>
          refine ⟨kk + 1, by omega, by omega, by go_num, Lib.hid (below_step BW.out HB'.out), Lib.hid (fun j hj => ?_)⟩
          by_cases e : j = kk
          · subst e
            rw [B.out]; exact HQ.out
          · exact A1.out j (by omega)
    · have hltz : ¬ (kk : Int) < (n : Int) := by omega
      have : kk = n := by omega
      subst this
      go_wp2
      go_ret
      exact ⟨ret_i (idxI_miss badC l z96 (fun j hj => A1.out j (by rw [HN.out] at hj; exact hj))).symm, BW.out⟩
theorem hasChg (A : Option Addr) (c : Nat) (l : List ChgS) (w : World) (h : Kd.C kChg w A l.length l) :
    Calls Try.prog 92 #[.slice A l.length c, .func (.func 93) #[] #[]] w fun e w' => e = .returned (.bool (l.any badC)) ∧ Below w.heap.size w w' := by
  have K := Lib.hid (idxChg A c l w h)
  obtain ⟨r, hr⟩ : ∃ r, idxI badC l = r := ⟨_, rfl⟩
  rw [hr] at K
  have HR := Lib.hid (idxI_any badC l)
  rw [hr] at HR
  obtain ⟨b, hb⟩ : ∃ b, l.any badC = b := ⟨_, rfl⟩
  rw [hb] at HR ⊢
  clear h hb hr
  go_enter Try.func92, Try.ntmps92
  go_wp2_with (first | (go_at_call 148; refine K.out.mono ?_; rintro e w' ⟨rfl, hb⟩; have HB := Lib.hid hb; clear hb))
  go_ret
  exact ⟨ret_b HR.out, HB.out⟩
/-- batch.MayChange. -/
def mayC (l : List ChgS) : Bool := !l.any badC && risingI l.length (keyC l) (lenC l)
def batch_MayChange.f (l0 : List ChgS) : Option Bool := some (mayC l0)
theorem batch_MayChange.calls (A0 : Option Addr) (c0 : Nat) (l0 : List ChgS) (r : Bool) (w : World) (hr0 : Kd.C kChg w A0 l0.length l0) (hc0 : l0.length ≤ c0) (h : batch_MayChange.f l0 = some r) :
    Calls Try.prog 33 #[.slice A0 l0.length c0] w fun e w' => e = .returned (.bool r) ∧ Below w.heap.size w w' := by
  have hm := Kd.C_max hr0
  obtain rfl := Option.some.inj h
  clear h
  have hb0 : Below w.heap.size w (w.alloc (.cells #[.slice A0 l0.length c0] 75 (0, 0))) := (Below.refl _ _).alloc (Nat.le_refl _) _
  have hcap : (w.alloc (.cells #[.slice A0 l0.length c0] 75 (0, 0))).cell? ⟨w.heap.size, 0, none⟩ = some (.slice A0 l0.length c0) := new_cell w _ _
  have hbk : ∀ W, Below (w.alloc (.cells #[.slice A0 l0.length c0] 75 (0, 0))).heap.size (w.alloc (.cells #[.slice A0 l0.length c0] 75 (0, 0))) W → Kd.C kChg W A0 l0.length l0 := fun W hW => Kd.C_below hr0 (below_step hb0 hW)
  have K1 := Lib.hid (hasChg A0 c0 l0 _ (hbk _ (Below.refl _ _)))
  have K := Lib.hid (fun W0 (hW0 : Below (w.alloc (.cells #[.slice A0 l0.length c0] 75 (0, 0))).heap.size (w.alloc (.cells #[.slice A0 l0.length c0] 75 (0, 0))) W0) => rising_calls 95 96 #[.pointer (some ⟨w.heap.size, 0, none⟩)] #[.pointer (some ⟨w.heap.size, 0, none⟩)] (fun args w => by kernel_rfl) (fun args w => by kernel_rfl) l0.length (by omega) (keyC l0) (lenC l0) W0
    (fun W i hi hW => mayc2_calls A0 l0.length c0 l0 _ i W hi (by omega) (cap_later (cap_later hcap hW0) hW) (hbk W (below_step hW0 hW))) (fun W i hi hW => mayc3_calls A0 l0.length c0 l0 _ i W hi (by omega) (cap_later (cap_later hcap hW0) hW) (hbk W (below_step hW0 hW))))
  have HB0 := Lib.hid hb0
  have HCL := Lib.hid (fun W => cap_later (W := W) hcap)
  have MA := Lib.hid (show mayC l0 = (!l0.any badC && risingI l0.length (keyC l0) (lenC l0)) from rfl)
  obtain ⟨M, hM⟩ : ∃ M, mayC l0 = M := ⟨_, rfl⟩
  obtain ⟨R, hR⟩ : ∃ R, risingI l0.length (keyC l0) (lenC l0) = R := ⟨_, rfl⟩
  obtain ⟨b, hb⟩ : ∃ b, l0.any badC = b := ⟨_, rfl⟩
  rw [hR] at K MA
  rw [hM] at MA ⊢
  rw [hb] at K1 MA
  obtain ⟨n, hn⟩ : ∃ n, l0.length = n := ⟨_, rfl⟩
  rw [hn] at K K1 hm HB0 hcap HCL ⊢
  clear hbk hr0 hb0 hR hc0 hM hb
  cases b with
  | true =>
    have e : M = false := MA.out
    subst e
    go_enter Try.func33, Try.ntmps33
    go_wp2_with (first
      | (go_at_call 92; refine K1.out.mono ?_; rintro e w1 ⟨rfl, hb1⟩; have HB1 := Lib.hid hb1; have hc1 := HCL.out _ hb1; clear hb1))
    go_ret
    exact ⟨rfl, below_step HB0.out HB1.out⟩
  | false =>
    have e : M = R := by rw [MA.out]; simp
    subst e
    go_enter Try.func33, Try.ntmps33
    go_wp2_with (first
      | (go_at_call 92; refine K1.out.mono ?_; rintro e w1 ⟨rfl, hb1⟩; have HB1 := Lib.hid hb1; have hc1 := HCL.out _ hb1; clear hb1)
      | (go_at_call 94; refine (K.out _ HB1.out).mono ?_; rintro e w2 ⟨rfl, hb2⟩; have HB2 := Lib.hid hb2; clear hb2))
    go_ret
    exact ⟨rfl, below_step HB0.out (below_step HB1.out HB2.out)⟩
end Go.Proofs.Ytaoflcmjmhfblaa.D
