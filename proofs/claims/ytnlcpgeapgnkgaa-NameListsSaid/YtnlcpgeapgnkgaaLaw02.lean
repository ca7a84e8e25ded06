/- lives of layer 2, and the walk of NameOrder. -/
import Derived.Test.YtnlcpgeapgnkgaaSort
namespace Go.Proofs.Ytnlcpgeapgnkgaa.H
open Go.RowKit Go.Proofs.YtnlcpgeapgnkgaaW.PrintWords Go.Proofs.YtnlcpgeapgnkgaaW.PrintLast Go.Proofs.YtnlcpgeapgnkgaaW.PrintMore
set_option linter.unusedVariables false
set_option linter.unusedSimpArgs false

theorem C_cells {α : Type} {enc : α → Value} {h1 : ∀ x, (enc x).oneCell' = true} (W : World) (g n : Nat) (l : List α) (hn : l.length = n) (hm : n ≤ 9223372036854775807) (h : ∀ j p, l[j]? = some p → W.cell? ⟨g, j, none⟩ = some (enc p)) : Kd.C (Kd.scalar enc h1) W (some ⟨g, 0, none⟩) n l := by
  refine ⟨hn, hm, fun _ => ⟨_, rfl, fun j p hj => ⟨[enc p], rfl, rfl, fun i u hu => ?_⟩⟩⟩
  have hi : i = 0 := by
    cases i with
    | zero => rfl
    | succ i => cases hu
  subst hi
  obtain rfl : enc p = u := Option.some.inj hu
  have e : (({ block := g, off := 0, spot := none } : Addr).add (j * 1 + 0)) = ⟨g, j, none⟩ := by
    unfold Addr.add
    by_cases h : j = 0 <;> simp [h]
  show W.cell? (({ block := g, off := 0, spot := none } : Addr).add (j * 1 + 0)) = _
  rw [e]
  exact h j p hj
theorem strs_lit (w : World) (t : Nat) (l : List ByteArray) (hm : l.length ≤ 9223372036854775807) : Kd.C Kd.string (w.alloc (.cells (l.map Value.string).toArray t)) (some ⟨w.heap.size, 0, none⟩) l.length l :=
  C_cells _ _ _ _ rfl hm (fun j p hj => by
    have h0 := (List.getElem?_eq_some_iff.1 hj).1
    have h1 := (List.getElem?_eq_some_iff.1 hj).2
    simp [h0, h1])
theorem ints_lit (w : World) (t : Nat) (l : List Int) (hm : l.length ≤ 9223372036854775807) : Kd.C (Kd.int .i64) (w.alloc (.cells (l.map (Value.int .i64)).toArray t)) (some ⟨w.heap.size, 0, none⟩) l.length l :=
  C_cells _ _ _ _ rfl hm (fun j p hj => by
    have h0 := (List.getElem?_eq_some_iff.1 hj).1
    have h1 := (List.getElem?_eq_some_iff.1 hj).2
    simp [h0, h1])

theorem quiet_below {w : World} (q : Nat) : Below w.heap.size w (w.drewN q) := pw_below_drewN (Below.refl _ _) q
theorem low_alloc_drew (w : World) (o : Obj) (q : Nat) : Below w.heap.size w ((w.alloc o).drewN q) := pw_below_drewN ((Below.refl w.heap.size w).alloc (Nat.le_refl _) o) q
theorem low_of_alloc {w w' : World} {o : Obj} (h : w' = w.alloc o) : Below w.heap.size w w' := by rw [h]; exact (Below.refl w.heap.size w).alloc (Nat.le_refl _) o
theorem low_of_ad {w w' : World} {o : Obj} {q : Nat} (h : w' = (w.alloc o).drewN q) : Below w.heap.size w w' := by rw [h]; exact low_alloc_drew w o q
theorem low_alloc_then {w w' : World} {o : Obj} (h : Below (w.alloc o).heap.size (w.alloc o) w') : Below w.heap.size w w' := below_step ((Below.refl w.heap.size w).alloc (Nat.le_refl _) o) h
set_option maxHeartbeats 1000000 in
set_option maxRecDepth 100000 in
theorem lives02 (w : World) : Calls Try.prog 20 #[] w fun e w' => e = .returned (.bool true) ∧ Below w.heap.size w w' := by
  have I1 := fun W => is_calls ⟨#[97, 45, 49]⟩ W
  have I2 := fun W => is_calls ⟨#[45, 97]⟩ W
  have I3 := fun W => is_calls ⟨#[97, 45]⟩ W
  have I4 := fun W => is_calls ⟨#[]⟩ W
  rw [show isL (strN ⟨#[97, 45, 49]⟩) = true by decide +kernel] at I1
  rw [show isL (strN ⟨#[45, 97]⟩) = false by decide +kernel] at I2
  rw [show isL (strN ⟨#[97, 45]⟩) = false by decide +kernel] at I3
  rw [show isL (strN ⟨#[]⟩) = false by decide +kernel] at I4
  have C1 := fun W => compare_calls ⟨#[98]⟩ ⟨#[97, 97]⟩ W
  rw [show cmpS ⟨#[98]⟩ ⟨#[97, 97]⟩ = -1 by decide +kernel] at C1
  have I1 := Lib.hid I1
  have I2 := Lib.hid I2
  have I3 := Lib.hid I3
  have I4 := Lib.hid I4
  have C1 := Lib.hid C1
  have HB := Lib.hid (Below.refl w.heap.size w)
  go_enter Try.func20, Try.ntmps20
  go_wp2_with (first
    | (go_at_call 21; refine (sort_lives _ _ _ (strs_lit w _ L4 (by decide)) (by simp)).mono ?_; rintro e w1 ⟨A1, c1, A2, c2, rfl, hs, hi, hb⟩; have HS := Lib.hid hs; have HI := Lib.hid hi; have HB1 := Lib.hid (below_step (HB.out.alloc (Nat.le_refl _) _) hb); clear hs hi hb)
    | (go_at_call 16; (first | (with_reducible refine (I1.out _).mono ?_) | (with_reducible refine (I2.out _).mono ?_) | (with_reducible refine (I3.out _).mono ?_) | (with_reducible refine (I4.out _).mono ?_)); rintro e w' ⟨rfl, hb⟩; have n1 := Lib.hid (Kd.C_below HS.out hb); have n2 := Lib.hid (Kd.C_below HI.out hb); have n3 := Lib.hid (below_step HB1.out hb); clear HS HI HB1 hb; have HS := n1; have HI := n2; have HB1 := n3; clear n1 n2 n3)
    | (go_at_call 18; refine (C1.out _).mono ?_; rintro e w' ⟨rfl, o, ho⟩; have hb := low_of_alloc ho; clear ho; have n1 := Lib.hid (Kd.C_below HS.out hb); have n2 := Lib.hid (Kd.C_below HI.out hb); have n3 := Lib.hid (below_step HB1.out hb); clear HS HI HB1 hb; have HS := n1; have HI := n2; have HB1 := n3; clear n1 n2 n3)
    | (go_at_call 23; refine (all_lives _ _ _ (strs_lit _ _ [⟨#[97]⟩, ⟨#[98]⟩, ⟨#[97]⟩] (by decide))).mono ?_; rintro e w' ⟨rfl, hb0⟩; have hb := low_alloc_then hb0; have n1 := Lib.hid (Kd.C_below HS.out hb); have n2 := Lib.hid (Kd.C_below HI.out hb); have n3 := Lib.hid (below_step HB1.out hb); clear HS HI HB1 hb; have HS := n1; have HI := n2; have HB1 := n3; clear n1 n2 n3)
    | (go_at_call 24; refine (texts_calls _ _ _ _ 4 S4 _ (Kd.C_alloc HS.out _) (strs_lit _ _ S4 (by decide))).mono ?_; rintro e w' ⟨rfl, q, hq⟩; have hb := low_of_ad hq; clear hq; have n1 := Lib.hid (Kd.C_below HS.out hb); have n2 := Lib.hid (Kd.C_below HI.out hb); have n3 := Lib.hid (below_step HB1.out hb); clear HS HI HB1 hb; have HS := n1; have HI := n2; have HB1 := n3; clear n1 n2 n3)
    | (go_at_call 25; refine (ints_calls _ _ _ _ 4 [1, 3, 2, 0] _ (Kd.C_alloc HI.out _) (ints_lit _ _ [1, 3, 2, 0] (by decide))).mono ?_; rintro e w' ⟨rfl, q, hq⟩; have hb := low_of_ad hq; clear hq; have n1 := Lib.hid (Kd.C_below HS.out hb); have n2 := Lib.hid (Kd.C_below HI.out hb); have n3 := Lib.hid (below_step HB1.out hb); clear HS HI HB1 hb; have HS := n1; have HI := n2; have HB1 := n3; clear n1 n2 n3))
  go_ret
  exact ⟨rfl, HB1.out⟩
end Go.Proofs.Ytnlcpgeapgnkgaa.H
