/- rank's law: orders that the document tells ('lives'). -/
import Derived.Test.YtaoflcmjmhfblaaMgG
import Derived.Test.YtaoflcmjmhfblaaMgH
namespace Go.Proofs.Ytaoflcmjmhfblaa.R
open Go.RowKit Go.Proofs.YtaoflcmjmhfblaaW.PrintWords Go.Proofs.YtaoflcmjmhfblaaW.PrintLast Go.Proofs.YtaoflcmjmhfblaaW.PrintMore Go.Proofs.Ytaoflcmjmhfblaa.H Go.Shelf
set_option linter.unusedVariables false
set_option linter.unusedSimpArgs false
def nmA : ByteArray := ⟨#[97]⟩
def nmB : ByteArray := ⟨#[98]⟩
def nmC : ByteArray := ⟨#[99]⟩
def pools3 : List PoolV := [⟨nmA, true, 1, 2⟩, ⟨nmB, true, 2, 1⟩, ⟨nmC, true, 1, 1⟩]
def quotes3 : List QuoteV := [⟨10, 1, 0⟩, ⟨18, 5, 0⟩, ⟨9, 3, 0⟩]
def cfg3 (B : Nat) (st : Int) : Array Value := #[.slice (some ⟨B, 0, none⟩) 3 3, .int .u8 st, .int .i64 2, .bool false, .int .i64 0, .int .i64 0, .int .i64 0, .int .i64 0, .int .i64 0, .int .i64 0, .int .u64 0, .int .u64 0, .int .u64 0, .int .u64 0, .int .u64 0, .int .u64 0, .bool false, .int .i64 0, .slice none 0 0, .slice none 0 0]
def poolCs : Array Value := #[.string nmA, .bool true, .int .i64 1, .int .i64 2, .string nmB, .bool true, .int .i64 2, .int .i64 1, .string nmC, .bool true, .int .i64 1, .int .i64 1]
def quoteCs : Array Value := #[.int .i64 10, .int .i64 1, .int .u64 0, .int .i64 18, .int .i64 5, .int .u64 0, .int .i64 9, .int .i64 3, .int .u64 0]
def cfg3Z : Array Value := #[.slice none 0 0, .int .u8 0, .int .i64 0, .bool false, .int .i64 0, .int .i64 0, .int .i64 0, .int .i64 0, .int .i64 0, .int .i64 0, .int .u64 0, .int .u64 0, .int .u64 0, .int .u64 0, .int .u64 0, .int .u64 0, .bool false, .int .i64 0, .slice none 0 0, .slice none 0 0]
theorem cff3 (B : Nat) (st : Int) : CfF (cfg3 B st) (some ⟨B, 0, none⟩) 3 3 st 2 := ⟨rfl, by simp [cfg3, Value.oneCell'], rfl, rfl, rfl⟩
theorem cells_of {w : World} {B : Nat} {cs : Array Value} {T : TypeId} (h : w.heap[B]? = some (.cells cs T (0, 0))) : ∀ j v, cs.toList[j]? = some v → w.cell? ((⟨B, 0, none⟩ : Addr).add j) = some v := fun j v hj => by
  have e : (⟨B, 0, none⟩ : Addr).add j = ⟨B, j, none⟩ := by unfold Addr.add; by_cases hz : j = 0 <;> simp [hz]
  rw [e]
  refine (blk_cell h j).trans ?_
  simpa using hj
theorem pools_C {w : World} {B : Nat} {T : TypeId} (h : w.heap[B]? = some (.cells poolCs T (0, 0))) : Kd.C kPool w (some ⟨B, 0, none⟩) 3 pools3 := by
  refine ⟨rfl, by decide, fun _ => ⟨_, rfl, ?_⟩⟩
  intro j p hp
  have hh := cells_of h
  match j, hp with
  | 0, hp =>
    obtain rfl := Option.some.inj hp
    refine ⟨[_, _, _, _], rfl, ⟨[_], [_, _, _], rfl, rfl, [_], [_, _], rfl, rfl, [_], [_], rfl, rfl, rfl⟩, fun i u hu => hh _ _ ?_⟩
    match i, hu with
    | 0, hu => exact hu
    | 1, hu => exact hu
    | 2, hu => exact hu
    | 3, hu => exact hu
    | i + 4, hu => simp at hu
  | 1, hp =>
    obtain rfl := Option.some.inj hp
    refine ⟨[_, _, _, _], rfl, ⟨[_], [_, _, _], rfl, rfl, [_], [_, _], rfl, rfl, [_], [_], rfl, rfl, rfl⟩, fun i u hu => hh _ _ ?_⟩
    match i, hu with
    | 0, hu => exact hu
    | 1, hu => exact hu
    | 2, hu => exact hu
    | 3, hu => exact hu
    | i + 4, hu => simp at hu
  | 2, hp =>
    obtain rfl := Option.some.inj hp
    refine ⟨[_, _, _, _], rfl, ⟨[_], [_, _, _], rfl, rfl, [_], [_, _], rfl, rfl, [_], [_], rfl, rfl, rfl⟩, fun i u hu => hh _ _ ?_⟩
    match i, hu with
    | 0, hu => exact hu
    | 1, hu => exact hu
    | 2, hu => exact hu
    | 3, hu => exact hu
    | i + 4, hu => simp at hu
  | j + 3, hp => simp [pools3] at hp
theorem quotes_C {w : World} {B : Nat} {T : TypeId} (h : w.heap[B]? = some (.cells quoteCs T (0, 0))) : Kd.C kQuote w (some ⟨B, 0, none⟩) 3 quotes3 := by
  refine ⟨rfl, by decide, fun _ => ⟨_, rfl, ?_⟩⟩
  intro j p hp
  have hh := cells_of h
  match j, hp with
  | 0, hp =>
    obtain rfl := Option.some.inj hp
    refine ⟨[_, _, _], rfl, ⟨[_], [_, _], rfl, rfl, [_], [_], rfl, rfl, rfl⟩, fun i u hu => hh _ _ ?_⟩
    match i, hu with
    | 0, hu => exact hu
    | 1, hu => exact hu
    | 2, hu => exact hu
    | i + 3, hu => simp at hu
  | 1, hp =>
    obtain rfl := Option.some.inj hp
    refine ⟨[_, _, _], rfl, ⟨[_], [_, _], rfl, rfl, [_], [_], rfl, rfl, rfl⟩, fun i u hu => hh _ _ ?_⟩
    match i, hu with
    | 0, hu => exact hu
    | 1, hu => exact hu
    | 2, hu => exact hu
    | i + 3, hu => simp at hu
  | 2, hp =>
    obtain rfl := Option.some.inj hp
    refine ⟨[_, _, _], rfl, ⟨[_], [_, _], rfl, rfl, [_], [_], rfl, rfl, rfl⟩, fun i u hu => hh _ _ ?_⟩
    match i, hu with
    | 0, hu => exact hu
    | 1, hu => exact hu
    | 2, hu => exact hu
    | i + 3, hu => simp at hu
  | j + 3, hp => simp [quotes3] at hp
set_option maxHeartbeats 4000000 in
set_option maxRecDepth 100000 in
theorem three_calls (st : Int) (w : World) : Calls Try.prog 117 #[.int .u8 st] w fun e w' => ∃ A B, e = .returned (.tuple #[.agg (cfg3 B st), .slice (some ⟨A, 0, none⟩) 3 3]) ∧ Kd.C kPool w' (some ⟨B, 0, none⟩) 3 pools3 ∧ Kd.C kQuote w' (some ⟨A, 0, none⟩) 3 quotes3 ∧ Below w.heap.size w w' := by
  go_enter Try.func117, Try.ntmps117
  go_upto_region 1 with fail
  go_wp2_with (first
    | (refine Go.Great.wpList_buildSliceTo rfl 37 104 3 _ rfl (w.heap.size + 1) (by simp) (some 8) rfl Try.underlying37 poolCs (by kernel_rfl) ?_; refine gen_wl (fun W => W.heap[w.heap.size]? = some (.cells (cfg3Z) 41 (0, 0)) ∧ W.heap[w.heap.size + 1]? = some (.cells poolCs 104 (0, 0)) ∧ W.heap.size = w.heap.size + 2 ∧ Below w.heap.size w W) ⟨?_, ?_, ?_, ?_⟩ ?_; rotate_left 4; rintro w1 ⟨h0, h1, hz, hb⟩; have H0 := Lib.hid h0; have H1 := Lib.hid h1; have HB := Lib.hid hb; clear h0 h1 hb)
    | (refine Go.Great.wpList_buildSliceTo rfl 97 106 3 _ rfl (w.heap.size + 2) hz (some 13) rfl Try.underlying97 quoteCs (by kernel_rfl) ?_; refine gen_wl (fun W => W.heap[w.heap.size]? = some (.cells (cfg3Z) 41 (0, 0)) ∧ W.heap[w.heap.size + 1]? = some (.cells poolCs 104 (0, 0)) ∧ W.heap[w.heap.size + 2]? = some (.cells quoteCs 106 (0, 0)) ∧ Below w.heap.size w W) ⟨?_, ?_, ?_, ?_⟩ ?_; rotate_left 4; rintro w2 ⟨h0, h1, h2, hb⟩; have K0 := Lib.hid h0; have K1 := Lib.hid h1; have K2 := Lib.hid h2; have KB := Lib.hid hb; clear h0 h1 h2 hb)
    | ((with_reducible refine gate_storeT 41 rfl ?_); refine bx_row rfl 41 (.tmp 2) (.tmp 9) rfl w.heap.size rfl (cfg3 (w.heap.size + 1) st) rfl 41 cfg3Z K0.out (by kernel_rfl) (by rfl) (by simp [cfg3, Value.oneCell']) KB.out (Nat.le_refl _) ?_))
  · intro W' h1 h2 h3 h4
    have J0 := Lib.hid h1
    have J1 := Lib.hid ((h3 (w.heap.size + 1) (by omega)).trans K1.out)
    have J2 := Lib.hid ((h3 (w.heap.size + 2) (by omega)).trans K2.out)
    have JB := Lib.hid h4
    clear h1 h2 h3 h4
    go_wp2_with fail
    exact bodyPost_ret (res_cell_tmp rfl rfl (run_loadVar_box 41 _ 41 _ _ _ J0.out Try.underlying41 rfl (by kernel_rfl))) rfl ⟨_, _, rfl, pools_C J1.out, quotes_C J2.out, JB.out⟩
  · exact (Below.heap_alloc _ _ _ (by rw [hz]; omega)).trans H0.out
  · exact (Below.heap_alloc _ _ _ (by rw [hz]; omega)).trans H1.out
  · have h := heap_alloc_new w1 (.cells quoteCs 106 (0, 0))
    rw [hz] at h
    exact h
  · exact below_alloc HB.out _
  · exact (Below.heap_alloc _ _ _ (by simp)).trans (heap_alloc_new _ _)
  · have h := heap_alloc_new (w.alloc (.cells cfg3Z 41 (0, 0))) (.cells poolCs 104 (0, 0))
    rw [World.size_alloc] at h
    exact h
  · simp [World.size_alloc]
  · exact below_alloc (below_alloc (Below.refl _ _) _) _
end Go.Proofs.Ytaoflcmjmhfblaa.R
/- rank's law: what the document tells of three pools; equality of two orders. -/
namespace Go.Proofs.Ytaoflcmjmhfblaa.R
open Go.RowKit Go.Proofs.YtaoflcmjmhfblaaW.PrintWords Go.Proofs.YtaoflcmjmhfblaaW.PrintLast Go.Proofs.YtaoflcmjmhfblaaW.PrintMore Go.Proofs.Ytaoflcmjmhfblaa.H Go.Shelf
set_option linter.unusedVariables false
set_option linter.unusedSimpArgs false
theorem sorted3 {fs : List (Int → Int → Int)} {L : List Int} (ho : ∀ f ∈ fs, OrdOn f [0, 1, 2]) (h : SortedL (firstK fs) [0, 1, 2] L) (h1 : firstK fs 1 2 ≤ 0) (h2 : firstK fs 1 0 ≤ 0) (h3 : firstK fs 2 0 ≤ 0) : L = [1, 2, 0] := by
  refine sorted_one (ordOn_first ho) h ⟨by decide, fun i j hij hj => ?_⟩
  have hj' : j < 3 := hj
  have hc : (i = 0 ∧ j = 1) ∨ (i = 0 ∧ j = 2) ∨ (i = 1 ∧ j = 2) := by omega
  rcases hc with ⟨rfl, rfl⟩ | ⟨rfl, rfl⟩ | ⟨rfl, rfl⟩
  · exact h1
  · exact h2
  · exact h3
theorem opens3 : opensL pools3 quotes3 true 0 = [0, 1, 2] := by decide
theorem fit3 : ∀ x ∈ [(0 : Int), 1, 2], FitP pools3 quotes3 x := by
  intro x hx
  have : x = 0 ∨ x = 1 ∨ x = 2 := by simpa using hx
  unfold FitP
  rcases this with rfl | rfl | rfl <;> decide
theorem order3 {st : Int} {L : List Int} (h1 : 1 ≤ st) (h4 : st ≤ 4) (h : OrderS st pools3 quotes3 [0, 1, 2] L) : L = [1, 2, 0] := by
  obtain ⟨_, h⟩ := h
  obtain ⟨a1, a2, a3, a4, a5⟩ := h (by decide)
  have op : ∀ f ∈ [prioC pools3], OrdOn f [0, 1, 2] := fun f hf => by rw [List.mem_singleton] at hf; rw [hf]; exact ordOn_prio _ _
  have oc : ∀ f ∈ [priceC pools3 quotes3], OrdOn f [0, 1, 2] := fun f hf => by rw [List.mem_singleton] at hf; rw [hf]; exact ordOn_price fit3
  have os : ∀ f ∈ [scoreC quotes3, priceC pools3 quotes3], OrdOn f [0, 1, 2] := fun f hf => by
    rcases List.mem_cons.1 hf with e | e
    · rw [e]; exact ordOn_score _ _
    · exact oc f e
  have cases4 : st = 1 ∨ st = 2 ∨ st = 3 ∨ st = 4 := by omega
  rcases cases4 with e | e | e | e
  · exact sorted3 op (a1 e) (by decide) (by decide) (by decide)
  · exact sorted3 oc (a2 e) (by decide) (by decide) (by decide)
  · exact sorted3 os (a3 e) (by decide) (by decide) (by decide)
  · obtain ⟨L1, L2, b1, b2, b3⟩ := a4 e
    have e1 := sorted3 oc b1 (by decide) (by decide) (by decide)
    have e2 := sorted3 os b2 (by decide) (by decide) (by decide)
    subst e1
    subst e2
    exact sorted3 (fun f hf => by rw [List.mem_singleton] at hf; rw [hf]; exact ordOn_sum _ _ _) b3 (by decide) (by decide) (by decide)
theorem order3n {st : Int} {L : List Int} (h : OrderS st pools3 quotes3 [] L) : L = [] := by
  obtain ⟨h1, h2⟩ := h
  cases hb : badR pools3 quotes3 []
  · obtain ⟨a1, a2, a3, a4, a5⟩ := h2 hb
    have key : ∀ {cf : Int → Int → Int}, SortedL cf [] L → L = [] := fun h => List.Perm.eq_nil h.1
    by_cases e1 : st = 1
    · exact key (a1 e1)
    by_cases e2 : st = 2
    · exact key (a2 e2)
    by_cases e3 : st = 3
    · exact key (a3 e3)
    by_cases e4 : st = 4
    · obtain ⟨_, _, _, _, h⟩ := a4 e4
      exact key h
    exact a5 e1 e2 e3 e4
  · exact h1 hb
theorem bel_drewN (w : World) (n : Nat) : Bel w (w.drewN n) := ⟨pw_below_drewN (Below.refl _ _) n, Nat.le_add_right _ _⟩
theorem list_ext {l m : List Int} {n : Nat} (h1 : l.length = n) (h2 : m.length = n) (h : ∀ j, j < n → l.getD j 0 = m.getD j 0) : l = m := by
  refine List.ext_getElem (h1.trans h2.symm) (fun i a b => ?_)
  have := h i (by omega)
  simpa [List.getD_eq_getElem?_getD, a, b] using this
set_option maxHeartbeats 4000000 in
set_option maxRecDepth 100000 in
theorem ints_calls {A B : Option Addr} (ca cb : Nat) {l m : List Int} {w : World} {na nb : Nat} (hna : l.length = na) (hnb : m.length = nb) (hA : Kd.C (Kd.int .i64) w A na l) (hB : Kd.C (Kd.int .i64) w B nb m) :
    Calls Try.prog 53 #[.slice A na ca, .slice B nb cb] w fun e w' => e = .returned (.bool (decide (l = m))) ∧ Bel w w' := by
  have hm := Kd.C_max hA
  have hm2 := Kd.C_max hB
  by_cases hne : na = nb
  · subst hne
    have HA := Lib.hid hA
    have HB := Lib.hid hB
    have H1 := Lib.hid hna
    have H2 := Lib.hid hnb
    clear hA hB hna hnb hm2
    go_enter Try.func53, Try.ntmps53
    go_wp2_with fail
    go_loopw [5] (fun v5 wr => ∃ (i q : Nat), i ≤ na ∧ v5 = .int .i64 i ∧ wr = w.drewN q ∧ Hid (∀ j, j < i → l.getD j 0 = m.getD j 0)) (fun v5 _ => na - (intOf v5).toNat)
    case atStart => exact ⟨0, 0, Nat.zero_le _, rfl, rfl, Lib.hid (fun j h => absurd h (Nat.not_lt_zero _))⟩
    case round =>
      obtain ⟨i, q, hi, rfl, rfl, HE⟩ := hrel
      by_cases hlt : i < na
      · obtain ⟨ad, ea, hca⟩ := loadInt HA.out i hlt
        obtain ⟨bd, eb, hcb⟩ := loadInt HB.out i hlt
        subst ea
        subst eb
        obtain ⟨x, hx⟩ : ∃ x, l.getD i 0 = x := ⟨_, rfl⟩
        obtain ⟨y, hy⟩ : ∃ y, m.getD i 0 = y := ⟨_, rfl⟩
        rw [hx] at hca
        rw [hy] at hcb
        have HX := Lib.hid hx
        have HY := Lib.hid hy
        clear hx hy
        have l1 : ((i : Int) < (na : Int)) := by omega
        have l0 : (0 : Int) ≤ (i : Int) := by omega
        by_cases hxy : x = y
        · subst hxy
          have hxx : (x != x) = false := by simp
          go_wp2_with fail
          go_quiet (fail)
          go_wp2_with fail
          exact ⟨⟨i + 1, _, by omega, by go_num, by first | rfl | (rw [World.drewN_drewN]), Lib.hid (fun j hj => by
            by_cases e : j = i
            · subst e; rw [HX.out, HY.out]
            · exact HE.out j (by omega))⟩, by simp only [intOf]; omega⟩
        · have hxx : (x != y) = true := by simpa using hxy
          go_wp2_with fail
          go_quiet (fail)
          go_wp2_with fail
          go_ret
          exact ⟨ret_b (decide_eq_false (fun e => hxy (by rw [← HX.out, ← HY.out, e]))).symm, (bel_drewN _ _).trans (bel_drewN _ _)⟩
      · have : i = na := by omega
        subst this
        go_wp2_with fail
        go_ret
        refine ⟨ret_b ?_, ?_⟩
        · exact (decide_eq_true (list_ext H1.out H2.out HE.out)).symm
        · exact bel_drewN _ _
  · have e1 : ((na : Int) != (nb : Int)) = true := by simp; omega
    have e2 : ¬ l = m := fun e => hne (by rw [← hna, ← hnb, e])
    clear hA hB hna hnb
    go_enter Try.func53, Try.ntmps53
    go_wp2_with fail
    go_ret
    exact ⟨ret_b (decide_eq_false e2).symm, Bel.refl _⟩
theorem ints3_C {w : World} {B : Nat} {T : TypeId} {x y z : Int} (h : w.heap[B]? = some (.cells #[.int .i64 x, .int .i64 y, .int .i64 z] T (0, 0))) : Kd.C (Kd.int .i64) w (some ⟨B, 0, none⟩) 3 [x, y, z] := by
  refine ⟨rfl, by decide, fun _ => ⟨_, rfl, ?_⟩⟩
  intro j p hp
  have hh := cells_of h
  match j, hp with
  | 0, hp =>
    obtain rfl := Option.some.inj hp
    refine ⟨[_], rfl, rfl, fun i u hu => hh _ _ ?_⟩
    match i, hu with
    | 0, hu => exact hu
    | i + 1, hu => simp at hu
  | 1, hp =>
    obtain rfl := Option.some.inj hp
    refine ⟨[_], rfl, rfl, fun i u hu => hh _ _ ?_⟩
    match i, hu with
    | 0, hu => exact hu
    | i + 1, hu => simp at hu
  | 2, hp =>
    obtain rfl := Option.some.inj hp
    refine ⟨[_], rfl, rfl, fun i u hu => hh _ _ ?_⟩
    match i, hu with
    | 0, hu => exact hu
    | i + 1, hu => simp at hu
  | j + 3, hp => simp at hp
end Go.Proofs.Ytaoflcmjmhfblaa.R
/- rank's law: 'lives' answers true. -/
namespace Go.Proofs.Ytaoflcmjmhfblaa.R
open Go.RowKit Go.Proofs.YtaoflcmjmhfblaaW.PrintWords Go.Proofs.YtaoflcmjmhfblaaW.PrintLast Go.Proofs.YtaoflcmjmhfblaaW.PrintMore Go.Proofs.Ytaoflcmjmhfblaa.H Go.Shelf
set_option linter.unusedVariables false
set_option linter.unusedSimpArgs false
theorem pick3 : pickP 2 2 [0, 3, 2] [1, 2, 0] = 2 := by decide
theorem opens3n : opensL pools3 quotes3 false 0 = [] := by decide
theorem ord3_calls (A B : Nat) (st : Int) (h1 : 1 ≤ st) (h4 : st ≤ 4) (w : World) (hp : Kd.C kPool w (some ⟨B, 0, none⟩) 3 pools3) (hq : Kd.C kQuote w (some ⟨A, 0, none⟩) 3 quotes3) :
    Calls Try.prog 49 #[.agg (cfg3 B st), .slice (some ⟨A, 0, none⟩) 3 3, .bool true, .int .u64 0] w fun e w' => ∃ A' c', e = .returned (.slice A' 3 c') ∧ Kd.C (Kd.int .i64) w' A' 3 [1, 2, 0] ∧ Below w.heap.size w w' := by
  refine (order_calls (cfg3 B st) _ _ 3 3 st 2 pools3 quotes3 true 0 w (cff3 B st) hp hq (by decide)).mono ?_
  rintro e w' ⟨A', c', L, rfl, hc, hC, hb, hS⟩
  rw [opens3] at hS
  obtain rfl := order3 h1 h4 hS
  exact ⟨A', c', rfl, hC, hb⟩
theorem pick3_calls (A B g : Nat) (w : World) (hp : Kd.C kPool w (some ⟨B, 0, none⟩) 3 pools3) (hq : Kd.C kQuote w (some ⟨A, 0, none⟩) 3 quotes3) (hl : Kd.C (Kd.int .i64) w (some ⟨g, 0, none⟩) 3 [0, 3, 2]) :
    Calls Try.prog 54 #[.agg (cfg3 B 2), .slice (some ⟨A, 0, none⟩) 3 3, .slice (some ⟨g, 0, none⟩) 3 3, .bool true, .int .u64 0] w fun e w' => e = .returned (.tuple #[.int .i64 2, .bool true]) ∧ Below w.heap.size w w' := by
  refine (pick_calls (cfg3 B 2) _ _ _ 3 3 3 2 2 pools3 quotes3 [0, 3, 2] true 0 w (cff3 B 2) hp hq hl (by decide)).mono ?_
  rintro e w' ⟨L, rfl, hb, hS⟩
  rw [opens3] at hS
  obtain rfl := order3 (by decide) (by decide) hS
  rw [pick3]
  exact ⟨rfl, hb⟩
theorem pick3n_calls (A B : Nat) (w : World) (hp : Kd.C kPool w (some ⟨B, 0, none⟩) 3 pools3) (hq : Kd.C kQuote w (some ⟨A, 0, none⟩) 3 quotes3) :
    Calls Try.prog 54 #[.agg (cfg3 B 2), .slice (some ⟨A, 0, none⟩) 3 3, .slice none 0 0, .bool false, .int .u64 0] w fun e w' => e = .returned (.tuple #[.int .i64 0, .bool false]) ∧ Below w.heap.size w w' := by
  refine (pick_calls (cfg3 B 2) _ _ none 3 3 0 2 2 pools3 quotes3 [] false 0 w (cff3 B 2) hp hq (c_none w) (by decide)).mono ?_
  rintro e w' ⟨L, rfl, hb, hS⟩
  rw [opens3n] at hS
  obtain rfl := order3n hS
  exact ⟨rfl, hb⟩
set_option maxHeartbeats 8000000 in
set_option maxRecDepth 100000 in
theorem lives_calls (w : World) : Calls Try.prog 48 #[] w fun e w' => e = .returned (.bool true) ∧ Below w.heap.size w w' := by
  go_enter Try.func48, Try.ntmps48
  go_wp2_with fail
  go_loopw [1] (fun v1 wr => ∃ s : Nat, 1 ≤ s ∧ s ≤ 5 ∧ v1 = .int .u8 s ∧ Hid (Below w.heap.size w wr)) (fun v1 _ => 5 - (intOf v1).toNat)
  case atStart => exact ⟨1, by omega, by omega, rfl, Lib.hid (Below.refl _ _)⟩
  case round =>
    obtain ⟨s, h1, h5, rfl, HB⟩ := hrel
    by_cases hlt : s ≤ 4
    · have hl1 : (s : Int) ≤ 4 := by omega
      go_wp2_with (first
        | (go_at_call 53; refine (ints_calls _ _ rfl rfl HO.out HL.out).mono ?_; rintro e w5 ⟨rfl, hb⟩; have HB5 := Lib.hid (below_step HB4.out hb.1); clear hb)
        | (refine Go.Great.wpList_buildSliceTo rfl 99 3 3 _ rfl w3.heap.size rfl (some 22) rfl Try.underlying99 #[.int .i64 1, .int .i64 2, .int .i64 0] (by kernel_rfl) ?_; refine gen_wl (fun W => W.heap[w3.heap.size]? = some (.cells #[.int .i64 1, .int .i64 2, .int .i64 0] 3 (0, 0)) ∧ Below w3.heap.size w3 W) ⟨heap_alloc_new _ _, below_alloc (Below.refl _ _) _⟩ ?_; rintro w4 ⟨hx, hb⟩; have HL := Lib.hid (ints3_C hx); have HO := Lib.hid (Kd.C_below HO.out hb); have HB4 := Lib.hid (below_step HB3.out hb); clear hx hb)
        | (go_at_call 49; refine (ord3_calls A B s (by omega) (by omega) _ HP2.out HQ2.out).mono ?_; rintro e w3 ⟨A3, c3, rfl, hC, hb⟩; have HO := Lib.hid hC; have HB3 := Lib.hid (below_step HB2.out hb); clear hC hb)
        | ((with_reducible refine gate_load 41 rfl ?_); refine wpList_load_row rfl 41 _ rfl _ rfl 41 _ _ _ HX2.out Try.underlying41 rfl (by kernel_rfl) ?_)
        | ((with_reducible refine gate_storeT 41 rfl ?_); refine bx_row rfl 41 (.tmp 2) (.tmp 17) rfl w1.heap.size rfl (cfg3 B s) rfl 41 cfg3Z (heap_alloc_new _ _) (by kernel_rfl) (by rfl) (by simp [cfg3, Value.oneCell']) (below_alloc (Below.refl w1.heap.size w1) _) (Nat.le_refl _) ?_; intro w2 hx hsz hoth hb; have HX2 := Lib.hid hx; have HB2 := Lib.hid (below_step HB1.out hb); have HP2 := Lib.hid (Kd.C_below HP1.out hb); have HQ2 := Lib.hid (Kd.C_below HQ1.out hb); clear hx hsz hoth hb)
        | (go_at_call 117; refine (three_calls _ _).mono ?_; rintro e w1 ⟨A, B, rfl, hp, hq, hb⟩; have HP1 := Lib.hid hp; have HQ1 := Lib.hid hq; have HB1 := Lib.hid (below_step HB.out hb); clear hp hq hb))
      exact ⟨⟨s + 1, by omega, by omega, by go_num, HB5⟩, by simp only [intOf]; omega⟩
    · have : s = 5 := by omega
      subst this
      go_wp2_with (first
        | (go_at_call 54; refine (pick3n_calls A B _ HP5.out HQ5.out).mono ?_; rintro e w6 ⟨rfl, hb⟩; have HB6 := Lib.hid (below_step HB5.out hb); clear hb)
        | (go_at_call 54; refine (pick3_calls A B _ _ HP4.out HQ4.out HL.out).mono ?_; rintro e w5 ⟨rfl, hb⟩; have HB5 := Lib.hid (below_step HB4.out hb); have HX5 := Lib.hid (blk_call hb HX4.out); have HP5 := Lib.hid (Kd.C_below HP4.out hb); have HQ5 := Lib.hid (Kd.C_below HQ4.out hb); clear hb)
        | (refine Go.Great.wpList_buildSliceTo rfl 111 2 3 _ rfl w2.heap.size rfl (some 32) rfl Try.underlying111 #[.int .i64 0, .int .i64 3, .int .i64 2] (by kernel_rfl) ?_; refine gen_wl (fun W => W.heap[w2.heap.size]? = some (.cells #[.int .i64 0, .int .i64 3, .int .i64 2] 2 (0, 0)) ∧ Below w2.heap.size w2 W) ⟨heap_alloc_new _ _, below_alloc (Below.refl _ _) _⟩ ?_; rintro w4 ⟨hx, hb⟩; have HL := Lib.hid (ints3_C hx); have HX4 := Lib.hid (blk_call hb HX2.out); have HP4 := Lib.hid (Kd.C_below HP2.out hb); have HQ4 := Lib.hid (Kd.C_below HQ2.out hb); have HB4 := Lib.hid (below_step HB2.out hb); clear hx hb)
        | ((with_reducible refine gate_load 41 rfl ?_); refine wpList_load_row rfl 41 _ rfl _ rfl 41 _ _ _ HX5.out Try.underlying41 rfl (by kernel_rfl) ?_)
        | ((with_reducible refine gate_load 41 rfl ?_); refine wpList_load_row rfl 41 _ rfl _ rfl 41 _ _ _ HX2.out Try.underlying41 rfl (by kernel_rfl) ?_)
        | ((with_reducible refine gate_storeT 41 rfl ?_); refine bx_row rfl 41 (.tmp 4) (.tmp 27) rfl w1.heap.size rfl (cfg3 B 2) rfl 41 cfg3Z (heap_alloc_new _ _) (by kernel_rfl) (by rfl) (by simp [cfg3, Value.oneCell']) (below_alloc (Below.refl w1.heap.size w1) _) (Nat.le_refl _) ?_; intro w2 hx hsz hoth hb; have HX2 := Lib.hid hx; have HB2 := Lib.hid (below_step HB1.out hb); have HP2 := Lib.hid (Kd.C_below HP1.out hb); have HQ2 := Lib.hid (Kd.C_below HQ1.out hb); clear hx hsz hoth hb)
        | (go_at_call 117; refine (three_calls _ _).mono ?_; rintro e w1 ⟨A, B, rfl, hp, hq, hb⟩; have HP1 := Lib.hid hp; have HQ1 := Lib.hid hq; have HB1 := Lib.hid (below_step HB.out hb); clear hp hq hb))
      go_ret
      exact ⟨rfl, HB6.out⟩
end Go.Proofs.Ytaoflcmjmhfblaa.R
/- rank's law: great, IsOpen, the document's Opens. -/
namespace Go.Proofs.Ytaoflcmjmhfblaa.R
open Go.RowKit Go.Proofs.YtaoflcmjmhfblaaW.PrintWords Go.Proofs.YtaoflcmjmhfblaaW.PrintLast Go.Proofs.YtaoflcmjmhfblaaW.PrintMore Go.Proofs.Ytaoflcmjmhfblaa.H Go.Shelf
set_option linter.unusedVariables false
set_option linter.unusedSimpArgs false
set_option maxHeartbeats 2000000 in
set_option maxRecDepth 100000 in
theorem great_calls (cs : Array Value) (Ap Aq : Option Addr) (np cp nq cq : Nat) (st sp : Int) (w : World) (hcf : CfF cs Ap np cp st sp) :
    Calls Try.prog 47 #[.agg cs, .slice Aq nq cq] w fun e w' => e = .returned (.bool (decide (70 < np ∨ 70 < nq))) ∧ Below w.heap.size w w' := by
  have HCF := Lib.hid hcf
  clear hcf
  go_enter Try.func47, Try.ntmps47
  go_upto_region 1 with fail
  refine gen_w (fun W => W.cell? ⟨w.heap.size, 0, none⟩ = some (.slice Ap np cp) ∧ Below w.heap.size w W) ⟨(blk_cell (heap_alloc_new _ _) 0).trans HCF.out.c0, below_alloc (Below.refl _ _) _⟩ ?_
  rintro W ⟨hc0, hB⟩
  have HB := Lib.hid hB
  clear hB
  by_cases h1 : 70 < np
  · have g1 : ((np : Int) > 70) := by omega
    go_wp2_with fail
    go_ret
    exact ⟨ret_b (by simp [h1]), HB.out⟩
  · have g1 : ¬ ((np : Int) > 70) := by omega
    go_wp2_with fail
    all_goals (go_ret; refine ⟨ret_b ?_, HB.out⟩; simp [h1] <;> omega)
/-- Is a place's pool open, for the document? -/
def isO (qs : List QuoteV) (i now : Int) : Bool := decide (0 ≤ i) && decide (i < qs.length) && openQ (qAt qs i) now
set_option maxHeartbeats 2000000 in
set_option maxRecDepth 100000 in
theorem isOpen0_calls {Aq : Option Addr} (cq : Nat) {nq : Nat} {qs : List QuoteV} (i now : Int) {w : World} (hn : qs.length = nq) (hq : Kd.C kQuote w Aq nq qs) :
    Calls Try.prog 51 #[.slice Aq nq cq, .int .i64 i, .int .u64 now] w fun e w' => e = .returned (.bool (isO qs i now)) ∧ w = w' := by
  have hm := Kd.C_max hq
  unfold isO
  rw [hn]
  by_cases h0 : 0 ≤ i
  · by_cases h1 : i < nq
    · obtain ⟨m, rfl⟩ : ∃ m : Nat, i = m := ⟨i.toNat, by omega⟩
      obtain ⟨aq, eb, d1⟩ := loadQuote hq m (by omega)
      subst eb
      have s2 := d1 2 _ rfl
      have s0 := d1 0 _ rfl
      rw [add_f _ _ _ (by omega)] at s2
      rw [add_zeroA] at s0
      unfold qAt openQ
      rw [Int.toNat_natCast]
      obtain ⟨a2, e2⟩ : ∃ p, (qs.getD m zQuote).till = p := ⟨_, rfl⟩
      obtain ⟨a1, e1⟩ : ∃ p, (qs.getD m zQuote).price = p := ⟨_, rfl⟩
      rw [e2] at s2 ⊢
      rw [e1] at s0 ⊢
      have S0 := Lib.hid s0
      have S2 := Lib.hid s2
      clear e1 e2 d1 hq hn
      go_enter Try.func51, Try.ntmps51
      by_cases ht : a2 ≤ now
      · go_wp2_with fail
        all_goals first | (exfalso; omega) | (go_ret; refine ⟨ret_b ?_, rfl⟩; simp [h0, h1, ht] <;> omega)
      · clear s0 S0
        go_wp2_with fail
        all_goals first | (exfalso; omega) | (go_ret; refine ⟨ret_b ?_, rfl⟩; simp [h0, h1, ht] <;> omega)
    · clear hq hn
      go_enter Try.func51, Try.ntmps51
      go_wp2_with fail
      all_goals first | (exfalso; omega) | (go_ret; refine ⟨ret_b ?_, rfl⟩; simp [h0, h1] <;> omega)
  · clear hq hn
    go_enter Try.func51, Try.ntmps51
    go_wp2_with fail
    all_goals first | (exfalso; omega) | (go_ret; refine ⟨ret_b ?_, rfl⟩; simp [h0] <;> omega)
theorem isOpen_calls {Aq : Option Addr} (cq : Nat) {nq : Nat} {qs : List QuoteV} (i now : Int) {w : World} (hn : qs.length = nq) (hq : Kd.C kQuote w Aq nq qs) :
    Calls Try.prog 51 #[.slice Aq nq cq, .int .i64 i, .int .u64 now] w fun e w' => e = .returned (.bool (isO qs i now)) ∧ Bel w w' :=
  (isOpen0_calls cq i now hn hq).mono fun _ _ h => ⟨h.1, by rw [← h.2]; exact Bel.refl _⟩
end Go.Proofs.Ytaoflcmjmhfblaa.R
/- rank's law: the document's Opens. -/
namespace Go.Proofs.Ytaoflcmjmhfblaa.R
open Go.RowKit Go.Proofs.YtaoflcmjmhfblaaW.PrintWords Go.Proofs.YtaoflcmjmhfblaaW.PrintLast Go.Proofs.YtaoflcmjmhfblaaW.PrintMore Go.Proofs.Ytaoflcmjmhfblaa.H Go.Shelf
set_option linter.unusedVariables false
set_option linter.unusedSimpArgs false
set_option maxHeartbeats 4000000 in
set_option maxRecDepth 100000 in
theorem refOpens_calls (cs : Array Value) (Ap Aq : Option Addr) (cp cq : Nat) (st sp : Int) (ps : List PoolV) (qs : List QuoteV) (spot : Bool) (now : Int) (w : World)
    (hcf : CfF cs Ap ps.length cp st sp) (hps : Kd.C kPool w Ap ps.length ps) (hqs : Kd.C kQuote w Aq qs.length qs) (hsz : ps.length * 40 ≤ 140737488355328) :
    Calls Try.prog 50 #[.agg cs, .slice Aq qs.length cq, .bool spot, .int .u64 now] w fun e w' => ∃ v, e = .returned v ∧ Kd.R (Kd.int .i64) 3 w' w.heap.size (fun _ => True) v (opensL ps qs spot now) ∧ Below w.heap.size w w' := by
  have hm1 := Kd.C_max hps
  have hm2 := Kd.C_max hqs
  unfold opensL
  obtain ⟨np, hnp⟩ : ∃ n, ps.length = n := ⟨_, rfl⟩
  obtain ⟨nq, hnq⟩ : ∃ n, qs.length = n := ⟨_, rfl⟩
  rw [hnp] at hcf hps hm1 hsz ⊢
  rw [hnq] at hqs hm2 ⊢
  have HPS := Lib.hid hps
  have HQS := Lib.hid hqs
  have HCF := Lib.hid hcf
  have HNQ := Lib.hid hnq
  have HBel : Below w.heap.size w w := Below.refl _ _
  clear hps hqs hcf hnp hnq
  go_enter Try.func50, Try.ntmps50
  go_upto_region 1 with fail
  refine gen_w (fun W => W.cell? ⟨w.heap.size, 0, none⟩ = some (.slice Ap np cp) ∧ Below w.heap.size w W) ⟨(blk_cell (heap_alloc_new _ _) 0).trans HCF.out.c0, below_alloc HBel _⟩ ?_
  rintro W ⟨hc0, hB⟩
  have HB := Lib.hid hB
  clear hB HBel
  go_wp2_with fail
  have HB0 := HB
  go_loopw [9, 10] (fun v9 v10 wr => ∃ i : Nat, i ≤ min np nq ∧ v10 = .int .i64 i ∧ Hid (Kd.R (Kd.int .i64) 3 wr w.heap.size (fun k => k ≠ w.heap.size) v9 (thoseL (openP spot now) ps qs i)) ∧ Hid (Below w.heap.size w wr) ∧ Hid (wr.cell? ⟨w.heap.size, 0, none⟩ = some (.slice Ap np cp))) (fun _ v10 _ => min np nq - (intOf v10).toNat)
  case atStart => exact ⟨0, Nat.zero_le _, rfl, Lib.hid (Kd.R_nil _ _ _ _ _), HB0, Lib.hid hc0⟩
  case round =>
    rename_i u9 u10
    clear hc0
    obtain ⟨i, hi, rfl, HO, HB, HC0⟩ := hrel
    have hc0 := HC0.out
    by_cases hlt : i < min np nq
    · have hlp : i < np := by omega
      have hlq : i < nq := by omega
      obtain ⟨ap, ea, hpc⟩ := loadPool (Kd.C_below HPS.out HB.out) i (by omega)
      subst ea
      have hTK := thoseL_succ (openP spot now) ps qs i
      have s1 := hpc 1 _ rfl
      rw [add_f _ _ _ (by omega)] at s1
      have hO : isO qs (i : Int) now = openQ (qs.getD i zQuote) now := by
        unfold isO qAt
        rw [HNQ.out, Int.toNat_natCast]
        simp [hlq]
      have hcall := isOpen_calls cq (i : Int) now HNQ.out (Kd.C_below HQS.out HB.out)
      rw [hO] at hcall
      obtain ⟨p, hpe⟩ : ∃ p, ps.getD i zPool = p := ⟨_, rfl⟩
      obtain ⟨q, hqe⟩ : ∃ q, qs.getD i zQuote = q := ⟨_, rfl⟩
      obtain ⟨bb, hbb⟩ : ∃ bb, openQ q now = bb := ⟨_, rfl⟩
      rw [hpe, hqe] at hTK
      have hop : openP spot now p q = ((p.spot == spot) && openQ q now) := rfl
      rw [hop] at hTK
      clear hop
      rw [hpe] at s1
      rw [hqe, hbb] at hcall
      rw [hbb] at hTK
      obtain ⟨sp', hsp'⟩ : ∃ b, p.spot = b := ⟨_, rfl⟩
      rw [hsp'] at s1 hTK
      have HK := Lib.hid hcall
      clear hcall hpc hpe hqe hbb hsp' hO
      have l1 : ((i : Int) < (np : Int)) := by omega
      have l2 : ((i : Int) < (nq : Int)) := by omega
      cases hsb : (sp' == spot)
      · rw [hsb, Bool.false_and, if_neg (by simp), List.append_nil] at hTK
        have HTK := Lib.hid hTK
        clear hTK
        go_wp2_with fail
        exact ⟨⟨i + 1, by omega, by go_num, Lib.hid (by rw [HTK.out]; exact HO.out), HB, HC0⟩, by simp only [intOf]; omega⟩
      · rw [hsb, Bool.true_and] at hTK
        have HTK := Lib.hid hTK
        clear hTK
        cases bb
        · go_wp2_with (first | (go_at_call 51; refine HK.out.mono ?_; rintro e w1 ⟨rfl, hb⟩; have HO2 := Lib.hid (Kd.R_below HO.out hb.1); have HB2 := Lib.hid (below_step HB.out hb.1); have HC2 := Lib.hid ((hb.1.cell (World.block_lt_of_cell? _ _ HC0.out)).trans HC0.out); clear hb))
          exact ⟨⟨i + 1, by omega, by go_num, Lib.hid (by rw [HTK.out]; simp only [Bool.false_eq_true, if_false, List.append_nil]; exact HO2.out), HB2, HC2⟩, by simp only [intOf]; omega⟩
        · obtain ⟨Y, hY⟩ : ∃ Y, thoseL (openP spot now) ps qs i = Y := ⟨_, rfl⟩
          have hlen := thoseL_len (openP spot now) ps qs i
          have hO2 := HO.out
          have hTK := HTK.out
          rw [hY] at hO2 hTK hlen
          have HO3 := Lib.hid hO2
          have HTK3 := Lib.hid hTK
          have HLN := Lib.hid (show (Y.length + 1) * 8 ≤ 140737488355328 by omega)
          clear hY hO2 hTK hlen HTK HO
          go_wp2_with (first
            | (go_at_call 51; refine HK.out.mono ?_; rintro e w1 ⟨rfl, hb⟩; have HO4 := Lib.hid (Kd.R_below HO3.out hb.1); have HB2 := Lib.hid (below_step HB.out hb.1); have HC2 := Lib.hid ((hb.1.cell (World.block_lt_of_cell? _ _ HC0.out)).trans HC0.out); clear hb)
            | ((with_reducible refine gate_builtin (b := .append) (xs := #[.tmp 38, .tmp 40]) rfl ?_); at_builtin; refine Kd.R_append (Kd.int .i64) (w0 := w) w.heap.size rfl (.tmp 38) (.tmp 40) 99 3 (.int .i64 0) 8 rfl Try.underlying99 infoInt rfl (by decide) (by decide) u9 Y _ [.int .i64 _] (fun k => k ≠ w.heap.size) (fun _ => False) rfl rfl rfl (fun _ hk => hk.elim) (fun k hk => by have h1 := World.block_lt_of_cell? _ _ HC2.out; simp only at h1; omega) HO4.out HB2.out HB2.out.size HLN.out ?_; intro v1 w3 ho hb hg hat; have HO5 := Lib.hid ho; have HB5 := Lib.hid hb; have hne : some w.heap.size ≠ u9.ownBlock := (fun e => HO4.out.1 _ e.symm rfl); have HC5 := Lib.hid (hg.cell HC2.out hne); clear ho hb hg hat))
          exact ⟨⟨i + 1, by omega, by go_num, Lib.hid (by rw [HTK3.out]; simp only [if_true]; exact HO5.out), HB5, HC5⟩, by simp only [intOf]; omega⟩
    · have HE := Lib.hid (show i = min np nq by omega)
      by_cases hlp : i < np
      · have l1 : ((i : Int) < (np : Int)) := by omega
        have l2 : ¬ ((i : Int) < (nq : Int)) := by omega
        go_wp2_with fail
        all_goals first | (exfalso; omega) | (go_ret; exact ⟨u9, rfl, by rw [← HE.out]; exact Kd.R_mono HO.out (fun _ _ => trivial), HB.out⟩)
      · have l1 : ¬ ((i : Int) < (np : Int)) := by omega
        go_wp2_with fail
        all_goals first | (exfalso; omega) | (go_ret; exact ⟨u9, rfl, by rw [← HE.out]; exact Kd.R_mono HO.out (fun _ _ => trivial), HB.out⟩)
end Go.Proofs.Ytaoflcmjmhfblaa.R
/- rank's laws, plain: none is better than the first one; an order hangs on the open ones alone. -/
namespace Go.Proofs.Ytaoflcmjmhfblaa.R
open Go.RowKit Go.Proofs.YtaoflcmjmhfblaaW.PrintWords Go.Proofs.YtaoflcmjmhfblaaW.PrintLast Go.Proofs.YtaoflcmjmhfblaaW.PrintMore Go.Proofs.Ytaoflcmjmhfblaa.H Go.Shelf
set_option linter.unusedVariables false
set_option linter.unusedSimpArgs false
theorem firstK_le {f : Int → Int → Int} {r : List (Int → Int → Int)} {x y : Int} (h : firstK (f :: r) x y ≤ 0) : f x y ≤ 0 ∧ (f x y = 0 → firstK r x y ≤ 0) := by
  have e : firstK (f :: r) x y = (if f x y = 0 then firstK r x y else f x y) := rfl
  rw [e] at h
  by_cases g : f x y = 0
  · rw [if_pos g] at h; exact ⟨by omega, fun _ => h⟩
  · rw [if_neg g] at h; exact ⟨h, fun e => absurd e g⟩
/-- Places that are open and fit. -/
theorem fit_of {ps : List PoolV} {qs : List QuoteV} {spot : Bool} {now : Int} (hb : badR ps qs (opensL ps qs spot now) = false) : ∀ x ∈ opensL ps qs spot now, FitP ps qs x := by
  intro x hx
  unfold badR at hb
  rw [Bool.or_eq_false_iff] at hb
  obtain ⟨hb1, hb2⟩ := hb
  rw [List.any_eq_false] at hb1 hb2
  have ho := opens_in hx
  have hi := ho.1
  have h1 := hb1 (pAt ps x) (by
    unfold pAt
    rw [List.getD_eq_getElem?_getD, List.getElem?_eq_getElem (by have := hi.1; have := hi.2.1; omega)]
    exact List.getElem_mem _)
  have h2 := hb2 x hx
  have h3 := ho.2.1
  unfold unfit withinI at h1
  unfold dear at h2
  simp at h1 h2
  exact ⟨h1.1, h1.2, h3, h2⟩
theorem getD_mem {L : List Int} {i : Nat} (h : i < L.length) : L.getD i 0 ∈ L := by
  rw [List.getD_eq_getElem?_getD, List.getElem?_eq_getElem h]
  exact List.getElem_mem _
theorem mem_getD {L : List Int} {x : Int} (h : x ∈ L) : ∃ i, i < L.length ∧ L.getD i 0 = x := by
  obtain ⟨i, hi, rfl⟩ := List.getElem_of_mem h
  exact ⟨i, hi, by simp [List.getD_eq_getElem?_getD, hi]⟩
theorem nodup_getD {L : List Int} (hn : L.Nodup) {i j : Nat} (hi : i < L.length) (hj : j < L.length) (e : L.getD i 0 = L.getD j 0) : i = j := by
  simp only [List.getD_eq_getElem?_getD, List.getElem?_eq_getElem hi, List.getElem?_eq_getElem hj, Option.getD_some] at e
  exact (List.getElem_inj hn).1 e
theorem plL_get {L : List Int} (hn : L.Nodup) : ∀ (n j : Nat), n ≤ L.length → j < n → lookL (plL L n) (L.getD j 0) = some (j : Int)
  | 0, j, _, h => absurd h (Nat.not_lt_zero _)
  | n + 1, j, hl, h => by
    show lookL (setL (plL L n) (L.getD n 0) (n : Int)) _ = _
    rw [lookL_setL]
    by_cases e : j = n
    · subst e; rw [if_pos rfl]
    · rw [if_neg (fun q => e (nodup_getD hn (by omega) (by omega) q))]
      exact plL_get hn n j (by omega) (by omega)
/-- How the places stand in a sorted list of two that the order tells apart. -/
theorem place_lt {fs : List (Int → Int → Int)} {l L : List Int} (hl : l.Nodup) (h : SortedL (firstK fs) l L) {x y : Int} (hx : x ∈ l) (hy : y ∈ l) (hgt : ¬ firstK fs x y ≤ 0) (ho : OrdOn (firstK fs) l) :
    ∃ a b : Nat, lookL (plL L L.length) x = some (a : Int) ∧ lookL (plL L L.length) y = some (b : Int) ∧ b < a := by
  have hn : L.Nodup := h.1.nodup_iff.2 hl
  obtain ⟨a, ha, ea⟩ := mem_getD (h.1.mem_iff.2 hx)
  obtain ⟨b, hb, eb⟩ := mem_getD (h.1.mem_iff.2 hy)
  refine ⟨a, b, by rw [← ea]; exact plL_get hn _ _ (Nat.le_refl _) ha, by rw [← eb]; exact plL_get hn _ _ (Nat.le_refl _) hb, ?_⟩
  rcases Nat.lt_trichotomy a b with q | q | q
  · have := h.2 a b q hb
    rw [ea, eb] at this
    exact absurd this hgt
  · subst q
    rw [ea] at eb
    subst eb
    have := ho.neg x hx x hx
    omega
  · exact q
theorem sorted_first {cf : Int → Int → Int} {l L : List Int} (h : SortedL cf l L) (hr : ∀ x ∈ l, cf x x ≤ 0) {i : Nat} (hi : i < L.length) : cf (L.getD 0 0) (L.getD i 0) ≤ 0 := by
  rcases Nat.eq_zero_or_pos i with e | e
  · subst e
    exact hr _ (h.1.mem_iff.1 (getD_mem hi))
  · exact h.2 0 i e hi
/-- None is better than the first one. -/
structure BestP (st : Int) (ps : List PoolV) (qs : List QuoteV) (x y : Int) : Prop where
  prio : st = 1 → ¬ (pAt ps y).prio < (pAt ps x).prio
  low : st = 2 → ¬ priceC ps qs x y > 0
  much : st = 3 → ¬ (qAt qs y).score > (qAt qs x).score ∧ ((qAt qs y).score = (qAt qs x).score → ¬ priceC ps qs x y > 0)
  both : st = 4 → (qAt qs y).score > (qAt qs x).score → ¬ priceC ps qs x y > 0
theorem best_law {st : Int} {ps : List PoolV} {qs : List QuoteV} {spot : Bool} {now : Int} {L : List Int} (h : OrderS st ps qs (opensL ps qs spot now) L) {i : Nat} (hi : i < L.length) : BestP st ps qs (L.getD 0 0) (L.getD i 0) := by
  obtain ⟨h1, h2⟩ := h
  cases hb : badR ps qs (opensL ps qs spot now) with
  | true => rw [h1 hb] at hi; exact absurd hi (by simp)
  | false =>
    have fit := fit_of hb
    have hnd : (opensL ps qs spot now).Nodup := thoseL_nodup _ _ _ _
    obtain ⟨l, hl⟩ : ∃ l, opensL ps qs spot now = l := ⟨_, rfl⟩
    rw [hl] at fit h2 hb hnd
    obtain ⟨a1, a2, a3, a4, a5⟩ := h2 hb
    have op : ∀ f ∈ [prioC ps], OrdOn f l := fun f hf => by rw [List.mem_singleton] at hf; rw [hf]; exact ordOn_prio _ _
    have oc : ∀ f ∈ [priceC ps qs], OrdOn f l := fun f hf => by rw [List.mem_singleton] at hf; rw [hf]; exact ordOn_price fit
    have os : ∀ f ∈ [scoreC qs, priceC ps qs], OrdOn f l := fun f hf => by
      rcases List.mem_cons.1 hf with e | e
      · rw [e]; exact ordOn_score _ _
      · exact oc f e
    have refl : ∀ {fs : List (Int → Int → Int)}, (∀ f ∈ fs, OrdOn f l) → ∀ x ∈ l, firstK fs x x ≤ 0 := fun {fs} h x hx => by
      have := (ordOn_first h).neg x hx x hx
      omega
    refine ⟨fun e => ?_, fun e => ?_, fun e => ?_, fun e hs hp => ?_⟩
    · have k := (firstK_le (sorted_first (a1 e) (refl op) hi)).1
      unfold prioC at k
      rw [cmpI_le] at k
      omega
    · have k := (firstK_le (sorted_first (a2 e) (refl oc) hi)).1
      omega
    · obtain ⟨k1, k2⟩ := firstK_le (sorted_first (a3 e) (refl os) hi)
      have k1' := k1
      unfold scoreC at k1
      rw [cmpI_le] at k1
      refine ⟨by omega, fun he => ?_⟩
      have := (firstK_le (k2 (by unfold scoreC; rw [cmpI_zero]; exact he))).1
      omega
    · obtain ⟨L1, L2, b1, b2, b3⟩ := a4 e
      have k := (firstK_le (sorted_first b3 (refl (fun f hf => by rw [List.mem_singleton] at hf; rw [hf]; exact ordOn_sum _ _ _)) hi)).1
      have hx := b3.1.mem_iff.1 (getD_mem (L := L) (i := 0) (by omega))
      have hy := b3.1.mem_iff.1 (getD_mem hi)
      obtain ⟨p, q, ep, eq, hlt⟩ := place_lt hnd b1 hx hy (fun h => by have := (firstK_le h).1; omega) (ordOn_first oc)
      obtain ⟨p', q', ep', eq', hlt'⟩ := place_lt hnd b2 hx hy (fun h => by
        have := (firstK_le h).1
        unfold scoreC at this
        rw [cmpI_le] at this
        omega) (ordOn_first os)
      unfold sumC at k
      rw [ep, eq, ep', eq', cmpI_le] at k
      simp only [Option.getD_some] at k
      omega
theorem order_perm {st : Int} {ps : List PoolV} {qs : List QuoteV} {l L : List Int} (h : OrderS st ps qs l L) (hne : ¬ L = []) : L.Perm l := by
  obtain ⟨h1, h2⟩ := h
  cases hb : badR ps qs l with
  | true => exact absurd (h1 hb) hne
  | false =>
    obtain ⟨a1, a2, a3, a4, a5⟩ := h2 hb
    by_cases e1 : st = 1
    · exact (a1 e1).1
    by_cases e2 : st = 2
    · exact (a2 e2).1
    by_cases e3 : st = 3
    · exact (a3 e3).1
    by_cases e4 : st = 4
    · obtain ⟨_, _, _, _, h⟩ := a4 e4
      exact h.1
    exact absurd (a5 e1 e2 e3 e4) hne
theorem sorted_congr {cf cf' : Int → Int → Int} {l L : List Int} (h : SortedL cf l L) (he : ∀ x ∈ l, ∀ y ∈ l, cf x y = cf' x y) : SortedL cf' l L :=
  ⟨h.1, fun i j hij hj => by rw [← he _ (h.1.mem_iff.1 (getD_mem (by omega))) _ (h.1.mem_iff.1 (getD_mem hj))]; exact h.2 i j hij hj⟩
theorem firstK_congr : ∀ {fs fs' : List (Int → Int → Int)} {x y : Int}, fs.map (fun f => f x y) = fs'.map (fun f => f x y) → firstK fs x y = firstK fs' x y
  | [], [], x, y, _ => rfl
  | [], g :: r, x, y, h => by simp at h
  | f :: r, [], x, y, h => by simp at h
  | f :: r, g :: r', x, y, h => by
    simp only [List.map_cons, List.cons.injEq] at h
    show (if f x y = 0 then firstK r x y else f x y) = (if g x y = 0 then firstK r' x y else g x y)
    rw [h.1, firstK_congr h.2]
/-- The order hangs on the open places' quotes alone. -/
theorem order_alone {st : Int} {ps : List PoolV} {qs qs' : List QuoteV} {spot : Bool} {now : Int} {L M : List Int} (hl : opensL ps qs' spot now = opensL ps qs spot now) (hq : ∀ x ∈ opensL ps qs spot now, qAt qs' x = qAt qs x)
    (h : OrderS st ps qs (opensL ps qs spot now) L) (h' : OrderS st ps qs' (opensL ps qs' spot now) M) : L = M := by
  have hfit := @fit_of ps qs spot now
  rw [hl] at h'
  obtain ⟨l, hle⟩ : ∃ l, opensL ps qs spot now = l := ⟨_, rfl⟩
  rw [hle] at hq h h' hfit
  have hbad : badR ps qs' l = badR ps qs l := by
    unfold badR
    congr 1
    rw [Bool.eq_iff_iff, List.any_eq_true, List.any_eq_true]
    constructor
    · rintro ⟨x, hx, h⟩; exact ⟨x, hx, by unfold dear at *; rw [← hq x hx]; exact h⟩
    · rintro ⟨x, hx, h⟩; exact ⟨x, hx, by unfold dear at *; rw [hq x hx]; exact h⟩
  have hp : ∀ x ∈ l, ∀ y ∈ l, priceC ps qs' x y = priceC ps qs x y := fun x hx y hy => by unfold priceC; rw [hq x hx, hq y hy]
  have hs : ∀ x ∈ l, ∀ y ∈ l, scoreC qs' x y = scoreC qs x y := fun x hx y hy => by unfold scoreC; rw [hq x hx, hq y hy]
  obtain ⟨h1, h2⟩ := h
  obtain ⟨k1, k2⟩ := h'
  cases hb : badR ps qs l with
  | true => rw [h1 hb, k1 (by rw [hbad]; exact hb)]
  | false =>
    have fit := hfit hb
    obtain ⟨a1, a2, a3, a4, a5⟩ := h2 hb
    obtain ⟨b1, b2, b3, b4, b5⟩ := k2 (by rw [hbad]; exact hb)
    have op : ∀ f ∈ [prioC ps], OrdOn f l := fun f hf => by rw [List.mem_singleton] at hf; rw [hf]; exact ordOn_prio _ _
    have oc : ∀ f ∈ [priceC ps qs], OrdOn f l := fun f hf => by rw [List.mem_singleton] at hf; rw [hf]; exact ordOn_price fit
    have os : ∀ f ∈ [scoreC qs, priceC ps qs], OrdOn f l := fun f hf => by
      rcases List.mem_cons.1 hf with e | e
      · rw [e]; exact ordOn_score _ _
      · exact oc f e
    have e2 : ∀ {X}, SortedL (firstK [priceC ps qs']) l X → SortedL (firstK [priceC ps qs]) l X := fun h => sorted_congr h (fun x hx y hy => firstK_congr (by simp [hp x hx y hy]))
    have e3 : ∀ {X}, SortedL (firstK [scoreC qs', priceC ps qs']) l X → SortedL (firstK [scoreC qs, priceC ps qs]) l X := fun h => sorted_congr h (fun x hx y hy => firstK_congr (by simp [hp x hx y hy, hs x hx y hy]))
    by_cases q1 : st = 1
    · exact sorted_one (ordOn_first op) (a1 q1) (b1 q1)
    by_cases q2 : st = 2
    · exact sorted_one (ordOn_first oc) (a2 q2) (e2 (b2 q2))
    by_cases q3 : st = 3
    · exact sorted_one (ordOn_first os) (a3 q3) (e3 (b3 q3))
    by_cases q4 : st = 4
    · obtain ⟨L1, L2, c1, c2, c3⟩ := a4 q4
      obtain ⟨M1, M2, d1, d2, d3⟩ := b4 q4
      obtain rfl := sorted_one (ordOn_first oc) c1 (e2 d1)
      obtain rfl := sorted_one (ordOn_first os) c2 (e3 d2)
      exact sorted_one (ordOn_first (fun f hf => by rw [List.mem_singleton] at hf; rw [hf]; exact ordOn_sum _ _ _)) c3 d3
    rw [a5 q1 q2 q3 q4, b5 q1 q2 q3 q4]
end Go.Proofs.Ytaoflcmjmhfblaa.R
