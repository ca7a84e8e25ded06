/- conf: slices.IndexFunc, ContainsFunc over fields; fine. -/
import Derived.Test.YtgiokbhedblkfaaCf3
namespace Go.Proofs.Ytgiokbhedblkfaa.C
open Go.RowKit Go.Proofs.YtgiokbhedblkfaaW.PrintWords Go.Proofs.YtgiokbhedblkfaaW.PrintLast Go.Proofs.YtgiokbhedblkfaaW.PrintMore Go.Proofs.Ytgiokbhedblkfaa.H Go.Shelf
set_option linter.unusedVariables false
set_option linter.unusedSimpArgs false
/-- The closure tells p of each of these, in every later world. -/
def PredL (P : Program) (g : Nat) (cap : Array Value) (p : Fd → Bool) (l : List Fd) (w : World) : Prop :=
  ∀ (W : World) (x : Fd), x ∈ l → Below w.heap.size w W → Calls P g (#[x.v] ++ cap) W fun e w' => e = .returned (.bool (p x)) ∧ Below W.heap.size W w'
set_option maxHeartbeats 2000000 in
set_option maxRecDepth 100000 in
theorem idxFd (g : Nat) (cap : Array Value) (eg : ∀ args w, (callFunc g args).run Try.prog w = .ok (.enter g args) w) (p : Fd → Bool) (A : Option Addr) (c : Nat) (l : List Fd) (w : World)
    (h : Kd.C kFd w A l.length l) (hp : PredL Try.prog g cap p l w) :
    Calls Try.prog 115 #[.slice A l.length c, .func (.func g) #[] cap] w fun e w' => e = .returned (.int .i64 (idxI p l)) ∧ Below w.heap.size w w' := by
  have hm := Kd.C_max h
  obtain ⟨n, hn⟩ : ∃ n, l.length = n := ⟨_, rfl⟩
  rw [hn] at h hm ⊢
  have H := Lib.hid h
  have HN := Lib.hid hn
  have HP := Lib.hid hp
  clear h hn hp
  go_enter Try.func115, Try.ntmps115
  go_wp2
  go_loopg [5, 8] n (fun gg _ s8 wr => ∃ kk : Nat, kk ≤ n ∧ n - kk ≤ gg ∧ s8 = .int .i64 kk ∧ Hid (Below w.heap.size w wr) ∧ Hid (∀ j, j < kk → p (l.getD j zFd) = false))
  case atStart => exact ⟨0, Nat.zero_le _, by omega, rfl, Lib.hid (Below.refl _ w), Lib.hid (fun j hj => absurd hj (Nat.not_lt_zero _))⟩
  case round =>
    obtain ⟨kk, hkk, hg, rfl, BW, A1⟩ := hrel
    by_cases hlt : kk < n
    · have hltz : (kk : Int) < (n : Int) := by omega
      obtain ⟨ad, ea, hc⟩ := kFd_C (Kd.C_below H.out BW.out) kk hlt
      subst ea
      obtain ⟨y, hy⟩ : ∃ y, l.getD kk zFd = y := ⟨_, rfl⟩
      rw [hy] at hc
      have HC := Lib.hid hc
      have hlz : l[kk]? = some y := by rw [← hy, List.getD_eq_getElem?_getD, List.getElem?_eq_getElem (by rw [HN.out]; exact hlt)]; rfl
      have hcall := HP.out wr y (List.mem_of_getElem? hlz) BW.out
      simp only [Fd.v] at hcall
      have B := Lib.hid hy
      have BZ := Lib.hid hlz
      clear hy hlz hc
      cases hq : p y with
      | true =>
        rw [hq] at hcall
        have HQ := Lib.hid hq
        have HK := Lib.hid hcall
        clear hq hcall
        go_wp2_with (first | ((with_reducible refine gate_load 108 rfl ?_); refine wpList_load_any rfl 108 _ rfl _ rfl _ _ HC.out Try.underlying108 rfl (by kernel_rfl) ?_) | (go_at_fn g; refine HK.out.mono ?_; rintro e w' ⟨rfl, hb'⟩; have HB' := Lib.hid hb'; clear hb'))
        go_ret
        exact ⟨ret_i (idxI_hit p l kk y BZ.out HQ.out (fun j hj => by rw [getD_any l j y zFd (by rw [HN.out]; omega)]; exact A1.out j hj)).symm, below_step BW.out HB'.out⟩
      | false =>
        rw [hq] at hcall
        have HQ := Lib.hid hq
        have HK := Lib.hid hcall
        clear hq hcall
        go_wp2_with (first | ((with_reducible refine gate_load 108 rfl ?_); refine wpList_load_any rfl 108 _ rfl _ rfl _ _ HC.out Try.underlying108 rfl (by kernel_rfl) ?_) | (go_at_fn g; refine HK.out.mono ?_; rintro e w' ⟨rfl, hb'⟩; have HB' := Lib.hid hb'; clear hb'))
        go_roundg (n - (kk + 1))
        case measure => omega
        case rel =>
          refine ⟨kk + 1, by omega, by omega, by go_num, Lib.hid (below_step BW.out HB'.out), Lib.hid (fun j hj => ?_)⟩
          by_cases e : j = kk
          · subst e
            rw [B.out]; exact HQ.out
          · exact A1.out j (by omega)
    · have hltz : ¬ (kk : Int) < (n : Int) := by omega
      have : kk = n := by omega
      subst this
      go_wp2
      go_ret
      exact ⟨ret_i (idxI_miss p l zFd (fun j hj => A1.out j (by rw [HN.out] at hj; exact hj))).symm, BW.out⟩
set_option maxHeartbeats 1000000 in
theorem hasFd (g : Nat) (cap : Array Value) (eg : ∀ args w, (callFunc g args).run Try.prog w = .ok (.enter g args) w) (p : Fd → Bool) (A : Option Addr) (c : Nat) (l : List Fd) (w : World)
    (h : Kd.C kFd w A l.length l) (hp : PredL Try.prog g cap p l w) :
    Calls Try.prog 89 #[.slice A l.length c, .func (.func g) #[] cap] w fun e w' => e = .returned (.bool (l.any p)) ∧ Below w.heap.size w w' := by
  have K := Lib.hid (idxFd g cap eg p A c l w h hp)
  obtain ⟨r, hr⟩ : ∃ r, idxI p l = r := ⟨_, rfl⟩
  rw [hr] at K
  have HR := Lib.hid (idxI_any p l)
  rw [hr] at HR
  obtain ⟨b, hb⟩ : ∃ b, l.any p = b := ⟨_, rfl⟩
  rw [hb] at HR ⊢
  clear h hb hr hp
  go_enter Try.func89, Try.ntmps89
  go_wp2_with (first | (go_at_call 115; refine K.out.mono ?_; rintro e w' ⟨rfl, hb⟩; have HB := Lib.hid hb; clear hb))
  go_ret
  exact ⟨ret_b HR.out, HB.out⟩
/-- What a field's number is told as; is it not as it may be? -/
def Fd.val (f : Fd) : Int := f.k.rd f.x
def Fd.out (f : Fd) : Bool := decide (f.val < f.least) || decide (f.most < f.val)
/-- All boxes and numbers are there. -/
def FdsIn (W : World) (l : List Fd) : Prop := ∀ f ∈ l, f.Box W ∧ f.In W
theorem FdsIn.below {w W : World} {l : List Fd} (h : FdsIn w l) (hb : Below w.heap.size w W) : FdsIn W l := fun f hf => ⟨(h f hf).1.below hb, (h f hf).2.below hb⟩
set_option maxHeartbeats 1000000 in
theorem fine1_calls (f : Fd) (w : World) (hb : f.Box w) (hi : f.In w) :
    Calls Try.prog 90 #[f.v] w fun e w' => e = .returned (.bool f.out) ∧ Below w.heap.size w w' := by
  obtain ⟨W, hW⟩ : ∃ W, W = w.alloc (.cells f.cells.toArray 108 (0, 0)) := ⟨_, rfl⟩
  have hB : Below w.heap.size w W := by rw [hW]; exact (Below.refl _ _).alloc (Nat.le_refl _) _
  have K := Lib.hid (get_calls f W (hb.below hB) (hi.below hB))
  have hblk : W.heap[w.heap.size]? = some (.cells f.cells.toArray 108 (0, 0)) := by rw [hW]; exact heap_alloc_new _ _
  have h0 : W.cell? ⟨w.heap.size, 0, none⟩ = some (.func (.func f.k.get) #[] #[.pointer (some ⟨f.g, 0, none⟩)]) := by simp [World.cell?, hblk, Fd.cells]
  have h3 : W.cell? ⟨w.heap.size, 3, none⟩ = some (.int .i64 f.least) := by simp [World.cell?, hblk, Fd.cells]
  have h4 : W.cell? ⟨w.heap.size, 4, none⟩ = some (.int .i64 f.most) := by simp [World.cell?, hblk, Fd.cells]
  have e : f.out = (decide (f.val < f.least) || decide (f.most < f.val)) := rfl
  have eg := FK.get_enter f.k
  obtain ⟨g, hg⟩ : ∃ g, f.k.get = g := ⟨_, rfl⟩
  have hv : f.k.rd f.x = f.val := rfl
  rw [hv] at K
  rw [e]
  obtain ⟨v, hv2⟩ : ∃ v, f.val = v := ⟨_, rfl⟩
  rw [hv2] at K ⊢
  rw [hg] at K eg h0
  have HB := Lib.hid hB
  have HW := Lib.hid hW
  obtain ⟨cs, hcs⟩ : ∃ cs, f.cells.toArray = cs := ⟨_, rfl⟩
  have hfv : f.v = .agg cs := by rw [← hcs]; rfl
  rw [hcs] at hW
  rw [hfv]
  have hx := hW.symm
  clear hB hW hblk e hv hv2 hg hb hi hcs hfv HW
  go_enter Try.func90, Try.ntmps90

  go_wp2_with (first | (go_at_fn g; refine K.out.mono ?_; rintro e w' ⟨rfl, rfl⟩))
  all_goals
    go_ret
    refine ⟨ret_b ?_, HB.out⟩
    first
    | (rw [eq_comm, Bool.or_eq_true, decide_eq_true_eq, decide_eq_true_eq]; omega)
    | (rw [eq_comm, Bool.or_eq_false_iff, decide_eq_false_iff_not, decide_eq_false_iff_not]; omega)
    | (by_cases h1 : v < f.least <;> by_cases h2 : f.most < v <;> simp_all <;> omega)
/-- fine. -/
def fineL (l : List Fd) : Bool := !(l.any Fd.out)
theorem fine_calls (A : Option Addr) (c : Nat) (l : List Fd) (w : World) (h : Kd.C kFd w A l.length l) (hi : FdsIn w l) :
    Calls Try.prog 41 #[.slice A l.length c] w fun e w' => e = .returned (.bool (fineL l)) ∧ Below w.heap.size w w' := by
  have K := Lib.hid (hasFd 90 #[] (fun args w => by kernel_rfl) Fd.out A c l w h (fun W x hx hb => fine1_calls x W ((hi x hx).1.below hb) ((hi x hx).2.below hb)))
  unfold fineL
  obtain ⟨b, hb⟩ : ∃ b, l.any Fd.out = b := ⟨_, rfl⟩
  rw [hb] at K ⊢
  clear h hb hi
  go_enter Try.func41, Try.ntmps41
  go_wp2_with (first | (go_at_call 89; refine K.out.mono ?_; rintro e w' ⟨rfl, hb⟩; have HB := Lib.hid hb; clear hb))
  go_ret
  exact ⟨rfl, HB.out⟩
end Go.Proofs.Ytgiokbhedblkfaa.C
