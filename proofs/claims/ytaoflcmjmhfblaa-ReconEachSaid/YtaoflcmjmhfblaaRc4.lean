/- recon.Events. -/
import Derived.Test.YtaoflcmjmhfblaaRc3
namespace Go.Proofs.Ytaoflcmjmhfblaa.C
open Go.RowKit Go.Proofs.YtaoflcmjmhfblaaW.PrintWords Go.Proofs.YtaoflcmjmhfblaaW.PrintLast Go.Proofs.YtaoflcmjmhfblaaW.PrintMore Go.Proofs.Ytaoflcmjmhfblaa.H
set_option linter.unusedVariables false
set_option linter.unusedSimpArgs false
def allT (T : List TolV) (L : List InV) : List EvV := comeT T L ++ goneT T L
theorem inc_of {f : Nat → Int} {n : Nat} (h : ∀ i, i < n → 0 < i → f (i - 1) < f i) : ∀ (i j : Nat), i < j → j < n → f i < f j
  | i, 0, hij, _ => absurd hij (Nat.not_lt_zero _)
  | i, j + 1, hij, hj => by
    have h1 := h (j + 1) hj (by omega)
    rw [Nat.add_sub_cancel] at h1
    rcases Nat.lt_or_ge i j with q | q
    · have := inc_of h i j q (by omega); omega
    · have : i = j := by omega
      subst this; exact h1
theorem come_bound (T : List TolV) (L : List InV) : (comeT T L).length ≤ T.length * 2 := by
  unfold comeT comeL
  induction T with
  | nil => simp
  | cons t T ih =>
    rw [List.flatMap_cons, List.length_append, List.length_cons]
    have : (evOf (fun i : InV => i.state) (lookI (fun i : InV => i.id) L t.id) t).length ≤ 2 := by
      unfold evOf
      cases lookI (fun i : InV => i.id) L t.id with
      | none => simp only; split <;> simp
      | some i => simp only; split <;> (try split) <;> simp
    omega
theorem gone_bound (T : List TolV) (L : List InV) : (goneT T L).length ≤ L.length := by
  unfold goneT goneL
  induction L with
  | nil => simp
  | cons x L ih =>
    rw [List.flatMap_cons, List.length_append, List.length_cons]
    have : (goneOf (fun i : InV => i.id) T x).length ≤ 1 := by unfold goneOf; split <;> simp
    omega
theorem keepG {base : Nat} : ∀ W W', Below base W W' → (∀ (k : Nat) (cs : Array Value) (ty : TypeId), W.heap[k]? = some (Obj.cells cs ty (0, 0)) → ty ≠ 43 → ty ≠ 25 → W'.heap[k]? = W.heap[k]?) → KpG base W W' :=
  fun W W' hb h => ⟨hb, fun k cs ty hk h1 h2 => (h k cs ty hk h1 h2).trans hk⟩
set_option maxHeartbeats 2000000 in
theorem come_calls {A1 A2 : Option Addr} {n1 n2 c1 c2 : Nat} {wb : World} (w : World) (hb : Below wb.heap.size wb w) : Calls Try.prog 68 #[.slice A1 n1 c1, .slice A2 n2 c2] w fun e w' => ∃ g1 g2 : Nat, e = .returned (.func (.func 141) #[] #[.pointer (some ⟨g1, 0, none⟩), .pointer (some ⟨g2, 0, none⟩)]) ∧ MemC wb g1 g2 (.slice A1 n1 c1) (.slice A2 n2 c2) 22 23 w' ∧ Below w.heap.size w w' := by
  have HB := Lib.hid hb
  clear hb
  go_enter Try.func68, Try.ntmps68
  go_wp2_with fail
  go_ret
  exact ⟨_, _, rfl, ⟨below_step HB.out (below_alloc (below_alloc (Below.refl _ _) _) _), (Below.heap_alloc _ _ _ (by simp)).trans (heap_alloc_new _ _), (by have h := heap_alloc_new (w.alloc (.cells #[.slice A1 n1 c1] 22 (0, 0))) (.cells #[.slice A2 n2 c2] 23 (0, 0)); rw [World.size_alloc] at h; exact h)⟩, below_alloc (below_alloc (Below.refl _ _) _) _⟩
set_option maxHeartbeats 2000000 in
theorem gone_calls {A1 A2 : Option Addr} {n1 n2 c1 c2 : Nat} {wb : World} (w : World) (hb : Below wb.heap.size wb w) : Calls Try.prog 69 #[.slice A1 n1 c1, .slice A2 n2 c2] w fun e w' => ∃ g1 g2 : Nat, e = .returned (.func (.func 143) #[] #[.pointer (some ⟨g1, 0, none⟩), .pointer (some ⟨g2, 0, none⟩)]) ∧ MemC wb g1 g2 (.slice A2 n2 c2) (.slice A1 n1 c1) 23 22 w' ∧ Below w.heap.size w w' := by
  have HB := Lib.hid hb
  clear hb
  go_enter Try.func69, Try.ntmps69
  go_wp2_with fail
  go_ret
  exact ⟨_, _, rfl, ⟨below_step HB.out (below_alloc (below_alloc (Below.refl _ _) _) _), (by have h := heap_alloc_new (w.alloc (.cells #[.slice A1 n1 c1] 22 (0, 0))) (.cells #[.slice A2 n2 c2] 23 (0, 0)); rw [World.size_alloc] at h; exact h), (Below.heap_alloc _ _ _ (by simp)).trans (heap_alloc_new _ _)⟩, below_alloc (below_alloc (Below.refl _ _) _) _⟩
set_option maxHeartbeats 2000000 in
theorem collect_calls {g n : Nat} {lb : Array Value} {base : Nat} {w0 w : World} {N : Nat} {xs : List EvV} {Kp : World → World → Prop} (hn : 3 ≤ n) (eg : ∀ args w, (callFunc g args).run Try.prog w = .ok (.enter g args) w)
    (hseq : SeqStopsK Fence.wide (n - 1) Try.prog g lb (fun e : EvV => #[.agg e.cells]) Kp (fun ys => ys = xs) (fun _ => True) N w)
    (hKt : ∀ {A B C : World}, Kp A B → Kp B C → Kp A C) (hKp : ∀ W W', Below base W W' → (∀ (k : Nat) (cs : Array Value) (ty : TypeId), W.heap[k]? = some (Obj.cells cs ty (0, 0)) → ty ≠ 43 → ty ≠ 25 → W'.heap[k]? = W.heap[k]?) → Kp W W')
    (hB : Below base w0 w) (hb : base ≤ w.heap.size) (hN : N * 272 ≤ 140737488355328) :
    Calls Try.prog 67 #[.func (.func g) #[] lb] w fun e w' => ∃ v', e = .returned v' ∧ kEv.R 43 w' base (fun _ => True) v' xs ∧ Below base w0 w' := by
  have KA := Lib.hid (appendSeq_calls (v := .slice none 0 0) (init := []) hn eg hseq hKt hKp (Kd.R_nil _ _ _ _ _) hB hb (by simpa using hN))
  clear hseq hKt hKp
  go_enter Try.func67, Try.ntmps67
  go_wp2_with (go_at_call 66; refine KA.out.mono ?_; rintro e w' ⟨v', rfl, hr, hb'⟩; have HR := Lib.hid hr; have HB := Lib.hid hb'; clear hr hb')
  go_ret
  exact ⟨v', rfl, by have h := HR.out; rw [List.nil_append] at h; exact h, HB.out⟩
/-- What Events answers: the events, or its error. -/
def EventsV (T : List TolV) (L : List InV) (base : Nat) (v : Value) (code : Int) (w : World) : Prop :=
  (MayT T ∧ MayL L → code = 0 ∧ kEv.R 43 w base (fun _ => True) v (allT T L)) ∧ (¬ (MayT T ∧ MayL L) → code = 2 ∧ v = .slice none 0 0)
set_option maxHeartbeats 4000000 in
set_option maxRecDepth 100000 in
theorem events_calls {AT AL : Option Addr} (cT cL : Nat) {nT nL : Nat} {T : List TolV} {L : List InV} (w : World) (hT : kTol.C w AT nT T) (hL : kInst.C w AL nL L) (hwf : wfT T) (hbig : nT ≤ 100000) :
    Calls Try.prog 16 #[.slice AT nT cT, .slice AL nL cL] w fun e w' => ∃ v code, e = .returned (.tuple #[v, .int .i64 code]) ∧ EventsV T L w.heap.size v code w' ∧ Below w.heap.size w w' := by
  have KM := Lib.hid (show ∀ W, Below w.heap.size w W → _ from fun W hW => reconMay_calls AT cT nT T W (Kd.C_below hT hW) hwf)
  have KS := Lib.hid (show ∀ W, Below w.heap.size w W → _ from fun W hW => sumsMay_calls AL cL nL L W (Kd.C_below hL hW))
  have KC := Lib.hid (show MayT T → MayL L → ∀ W g1 g2, MemC w g1 g2 (.slice AT nT cT) (.slice AL nL cL) 22 23 W → Calls Try.prog 67 #[.func (.func 141) #[] #[.pointer (some ⟨g1, 0, none⟩), .pointer (some ⟨g2, 0, none⟩)]] W fun e w' => ∃ v', e = .returned v' ∧ kEv.R 43 w' w.heap.size (fun _ => True) v' (comeT T L) ∧ Below w.heap.size w w' from fun hMT hML W g1 g2 hM => by
    refine collect_calls (n := 3) (Kp := KpG w.heap.size) (N := 200000) (by omega) (enters_of Try.func141 (by kernel_rfl) rfl) ?_ KpG.trans keepG hM.below hM.below.size (by omega)
    exact come1_stops (by omega) hT hL hM (inc_of (fun i hi h0 => (hMT i (by rw [hT.1]; exact hi)).2.2 h0)) (inc_of (fun i hi h0 => (hML.2 i (by rw [hL.1]; exact hi)).2 h0)) (by have := come_bound T L; have := hT.1; omega))
  have KG := Lib.hid (show MayT T → MayL L → ∀ W v g1 g2, kEv.R 43 W w.heap.size (fun _ => True) v (comeT T L) → MemC w g1 g2 (.slice AL nL cL) (.slice AT nT cT) 23 22 W → Calls Try.prog 66 #[v, .func (.func 143) #[] #[.pointer (some ⟨g1, 0, none⟩), .pointer (some ⟨g2, 0, none⟩)]] W fun e w' => ∃ v', e = .returned v' ∧ kEv.R 43 w' w.heap.size (fun _ => True) v' (comeT T L ++ goneT T L) ∧ Below w.heap.size w w' from fun hMT hML W v g1 g2 hR hM => by
    refine appendSeq_calls (n := 3) (Kp := KpG w.heap.size) (N := 4096) (by omega) (enters_of Try.func143 (by kernel_rfl) rfl) ?_ KpG.trans keepG hR hM.below hM.below.size (by have := come_bound T L; have := hT.1; omega)
    exact gone1_stops (by omega) hT hL hM (inc_of (fun i hi h0 => (hMT i (by rw [hT.1]; exact hi)).2.2 h0)) (inc_of (fun i hi h0 => (hML.2 i (by rw [hL.1]; exact hi)).2 h0)) (by have := gone_bound T L; have := hML.1; omega))
  clear hT hL hwf hbig
  have hb0 : Below w.heap.size w w := Below.refl _ _
  have HB0 := Lib.hid hb0
  clear hb0
  go_enter Try.func16, Try.ntmps16
  go_upto_region 1 with fail
  by_cases hMT : MayT T
  · by_cases hML : MayL L
    · have KC2 := Lib.hid (KC.out hMT hML)
      have KG2 := Lib.hid (KG.out hMT hML)
      clear KC KG
      go_wp2_with (first
        | (go_at_call 66; refine (KG2.out _ _ _ _ HR4.out HM5.out).mono ?_; rintro e w6 ⟨v6, rfl, hr, hb⟩; have HR6 := Lib.hid hr; have HB6 := Lib.hid hb; clear hr hb)
        | (go_at_call 69; refine (gone_calls (wb := w) _ HB4.out).mono ?_; rintro e w5 ⟨h1, h2, rfl, hm, hb⟩; have HM5 := Lib.hid hm; have HR4 := Lib.hid (Kd.R_below HR4.out hb); clear hm hb)
        | (go_at_call 67; refine (KC2.out _ _ _ HM3.out).mono ?_; rintro e w4 ⟨v4, rfl, hr, hb⟩; have HR4 := Lib.hid hr; have HB4 := Lib.hid hb; clear hr hb)
        | (go_at_call 68; refine (come_calls (wb := w) _ HB2.out).mono ?_; rintro e w3 ⟨g1, g2, rfl, hm, hb⟩; have HM3 := Lib.hid hm; clear hm hb)
        | (go_at_call 65; refine (KS.out _ HB1.out).mono ?_; rintro e w2 ⟨⟨b2, rfl, hb2⟩, hb⟩; obtain rfl : b2 = true := hb2.2 hML; have HB2 := Lib.hid (below_step HB1.out hb); clear hb hb2)
        | (go_at_call 17; refine (KM.out _ HB0.out).mono ?_; rintro e w1 ⟨⟨b1, rfl, hb1⟩, hb⟩; obtain rfl : b1 = true := hb1.2 hMT; have HB1 := Lib.hid (below_step HB0.out hb); clear hb hb1))
      go_ret2
      exact ⟨_, _, rfl, ⟨fun _ => ⟨rfl, HR6.out⟩, fun h => absurd ⟨hMT, hML⟩ h⟩, HB6.out⟩
    · go_wp2_with (first
        | (go_at_call 65; refine (KS.out _ HB1.out).mono ?_; rintro e w2 ⟨⟨b2, rfl, hb2⟩, hb⟩; obtain rfl : b2 = false := (by cases b2 with | false => rfl | true => exact absurd (hb2.1 rfl) hML); have HB2 := Lib.hid (below_step HB1.out hb); clear hb hb2)
        | (go_at_call 17; refine (KM.out _ HB0.out).mono ?_; rintro e w1 ⟨⟨b1, rfl, hb1⟩, hb⟩; obtain rfl : b1 = true := hb1.2 hMT; have HB1 := Lib.hid (below_step HB0.out hb); clear hb hb1))
      go_ret2
      exact ⟨_, _, rfl, ⟨fun h => absurd h.2 hML, fun _ => ⟨rfl, rfl⟩⟩, HB2.out⟩
  · go_wp2_with (first
      | (go_at_call 17; refine (KM.out _ HB0.out).mono ?_; rintro e w1 ⟨⟨b1, rfl, hb1⟩, hb⟩; obtain rfl : b1 = false := (by cases b1 with | false => rfl | true => exact absurd (hb1.1 rfl) hMT); have HB1 := Lib.hid (below_step HB0.out hb); clear hb hb1))
    go_ret2
    exact ⟨_, _, rfl, ⟨fun h => absurd h.1 hMT, fun _ => ⟨rfl, rfl⟩⟩, HB1.out⟩
end Go.Proofs.Ytaoflcmjmhfblaa.C
