/- cohortlaw25.two and lives. -/
import Derived.Test.YtnlcpgeapgnkgaaExtra6
import Derived.Laws.CopyOwn
namespace Go.Proofs.Ytnlcpgeapgnkgaa.H
open Go.RowKit Go.Proofs.YtnlcpgeapgnkgaaW.PrintWords Go.Proofs.YtnlcpgeapgnkgaaW.PrintLast Go.Proofs.YtnlcpgeapgnkgaaW.PrintMore
set_option linter.unusedVariables false
set_option linter.unusedSimpArgs false
def twoI : List InV := [⟨1, 0, 0, 3, false, 3, 0, false, 0, true, false, 0⟩, ⟨2, 0, 0, 7, false, 3, 0, false, 0, false, false, 0⟩]
def twoC (surge : Int) (g : Nat) : Array Value := #[.slice none 0 0, .int .u8 0, .int .i64 0, .bool false, .int .i64 0, .int .i64 0, .int .i64 0, .int .i64 0, .int .i64 surge, .int .i64 0, .int .u64 0, .int .u64 0, .int .u64 0, .int .u64 0, .int .u64 0, .int .u64 0, .bool true, .int .i64 0, .slice none 0 0, .slice none 0 0, .slice none 0 0, .int .u8 0, .int .i64 0, .bool false, .int .i64 0, .int .i64 0, .int .i64 0, .int .i64 0, .int .i64 0, .int .i64 0, .int .u64 0, .int .u64 0, .int .u64 0, .int .u64 0, .int .u64 0, .int .u64 0, .bool false, .int .i64 0, .slice none 0 0, .slice none 0 0, .int .u32 0, .int .u64 0, .int .i64 10, .int .u64 0, .int .u64 0, .slice none 0 0, .slice (some ⟨g, 0, none⟩) 2 2, .slice none 0 0, .bool false, .int .i64 0, .int .i64 0, .int .i64 0, .bool false, .bool false, .slice none 0 0]
def twoS (surge : Int) (g : Nat) : StV := ⟨surge, true, 0, 10, some ⟨g, 0, none⟩, 2, 2, none, 0, 0, false, 0, false⟩
theorem twoF (surge : Int) (g : Nat) : StF (twoC surge g) (twoS surge g) := ⟨rfl, rfl, rfl, rfl, rfl, rfl, rfl, rfl, rfl, rfl⟩
theorem kInst_K (w : World) (i : InV) : kInst.K w i i.cells.toList := ⟨_, _, rfl, rfl, _, _, rfl, rfl, _, _, rfl, rfl, _, _, rfl, rfl, _, _, rfl, rfl, _, _, rfl, rfl, _, _, rfl, rfl, _, _, rfl, rfl, _, _, rfl, rfl, _, _, rfl, rfl, _, _, rfl, rfl, rfl⟩
theorem Boxd.put {w : World} {g t : Nat} {old : Array Value} (h : Boxd w g t old) (cs : Array Value) : Boxd (w.setRow g cs) g t cs := by
  unfold Boxd at *
  simp [World.setRow, Array.getElem?_modify, h]
theorem Boxd.put_other {w : World} {b g t : Nat} {c : Array Value} (h : Boxd w b t c) (cs : Array Value) (hne : g ≠ b) : Boxd (w.setRow g cs) b t c := by
  unfold Boxd at *
  simp [World.setRow, Array.getElem?_modify, h, hne]
theorem Boxd.set {w : World} {g t : Nat} {cs : Array Value} (h : Boxd w g t cs) (k : Nat) (v : Value) : Boxd (w.setCell ⟨g, k, none⟩ v) g t (cs.setIfInBounds k v) := by
  unfold Boxd at *
  simp [World.setCell, Array.getElem?_modify, h]
theorem Boxd.set_other {w : World} {b g t : Nat} {c : Array Value} (h : Boxd w b t c) (k : Nat) (v : Value) (hne : g ≠ b) : Boxd (w.setCell ⟨g, k, none⟩ v) b t c := by
  unfold Boxd at *
  simp [World.setCell, Array.getElem?_modify, h, hne]
theorem Boxd.frozen {w : World} {g t : Nat} {cs : Array Value} (h : Boxd w g t cs) (k : Nat) : w.frozen? ⟨g, k, none⟩ = false := by
  unfold Boxd at h
  simp [World.frozen?, h]
def twoB : Array Value := #[.int .u64 1, .int .u64 0, .int .i64 0, .int .i64 3, .bool false, .int .u8 3, .int .u64 0, .bool false, .int .u64 0, .bool true, .bool false, .int .u32 0, .int .u64 2, .int .u64 0, .int .i64 0, .int .i64 7, .bool false, .int .u8 3, .int .u64 0, .bool false, .int .u64 0, .bool false, .bool false, .int .u32 0]
theorem two_insts {w : World} {b t : Nat} (hb : Boxd w b t twoB) : kInst.C w (some ⟨b, 0, none⟩) 2 twoI := by
  refine ⟨rfl, by decide, fun _ => ⟨_, rfl, fun j p hj => ⟨p.cells.toList, rfl, kInst_K _ p, fun i u hu => ?_⟩⟩⟩
  have hj2 : j < 2 := (List.getElem?_eq_some_iff.1 hj).1
  have hi : i < 12 := (List.getElem?_eq_some_iff.1 hu).1
  have e : (({ block := b, off := 0, spot := none } : Addr).add (j * kInst.sz + i)) = ⟨b, j * 12 + i, none⟩ := by
    show ({ block := b, off := 0, spot := none } : Addr).add (j * 12 + i) = _
    unfold Addr.add
    split <;> simp_all
  rw [e]
  have : j = 0 ∨ j = 1 := by omega
  rcases this with rfl | rfl
  · obtain rfl := Option.some.inj hj
    refine hb.cell ?_
    have : i = 0 ∨ i = 1 ∨ i = 2 ∨ i = 3 ∨ i = 4 ∨ i = 5 ∨ i = 6 ∨ i = 7 ∨ i = 8 ∨ i = 9 ∨ i = 10 ∨ i = 11 := by omega
    rcases this with rfl | rfl | rfl | rfl | rfl | rfl | rfl | rfl | rfl | rfl | rfl | rfl <;> exact hu
  · obtain rfl := Option.some.inj hj
    refine hb.cell ?_
    have : i = 0 ∨ i = 1 ∨ i = 2 ∨ i = 3 ∨ i = 4 ∨ i = 5 ∨ i = 6 ∨ i = 7 ∨ i = 8 ∨ i = 9 ∨ i = 10 ∨ i = 11 := by omega
    rcases this with rfl | rfl | rfl | rfl | rfl | rfl | rfl | rfl | rfl | rfl | rfl | rfl <;> exact hu
theorem Boxd.new2 (w : World) (o : Obj) (t : Nat) (cs : Array Value) : Boxd ((w.alloc o).alloc (.cells cs t)) (w.heap.size + 1) t cs := by
  have := Boxd.new (w.alloc o) t cs
  simpa using this
/-- What two answers. -/
def TwoP (surge : Int) (w : World) (e : Ending) (w' : World) : Prop := ∃ g, e = .returned (.agg (twoC surge g)) ∧ kInst.C w' (some ⟨g, 0, none⟩) 2 twoI ∧ Below w.heap.size w w'
theorem low_alloc_box {w w2 : World} {o : Obj} (h : Below w.heap.size (w.alloc o) w2) : Below w.heap.size w w2 := ((Below.refl w.heap.size w).alloc (Nat.le_refl _) o).trans h
set_option maxHeartbeats 2000000 in
set_option maxRecDepth 100000 in
theorem two_calls (surge : Int) (w : World) : Calls Try.prog 28 #[.int .i64 surge] w (TwoP surge w) := by
  go_enter Try.func28, Try.ntmps28
  go_wp2_with (first | ((with_reducible refine gate_storeT 36 rfl ?_); refine wpList_store_row rfl 36 _ _ rfl w.heap.size _ rfl rfl 36 _ ((Boxd.new w 36 _).below ((Below.refl _ _).alloc (Nat.le_refl _) _)) (by kernel_rfl) rfl (by simp [Value.oneCell']) ?_))
  refine bodyPost_ret (results_cell_row rfl _ _ _ 36 _ _ _ rfl (((Boxd.new w 36 _).below ((Below.refl _ _).alloc (Nat.le_refl _) _)).put _) Try.underlying36 rfl (by kernel_rfl)) rfl ?_
  exact ⟨w.heap.size + 1, rfl, two_insts ((Boxd.new2 _ _ _ _).put_other _ (by omega)), Go.below_setRow (below2 w _ _) (Nat.le_refl _) _⟩
theorem Boxd.there {w : World} {g t : Nat} {cs : Array Value} (h : Boxd w g t cs) (o n : Nat) (hn : o + n ≤ cs.size) : w.there g o n := fun j hj =>
  ⟨by rw [h.cell (Array.getElem?_eq_getElem (show o + j < cs.size by omega))]; rfl, h.frozen _⟩
def putL (cs : Array Value) (o : Nat) : List Value → Array Value
  | [] => cs
  | v :: r => putL (cs.setIfInBounds o v) (o + 1) r
theorem Boxd.sets {g t : Nat} : ∀ (vs : List Value) (o : Nat) {w : World} {cs : Array Value}, Boxd w g t cs → Boxd (w.setCells g o vs) g t (putL cs o vs)
  | [], _, _, _, h => h
  | v :: r, o, w, cs, h => Boxd.sets r (o + 1) (h.set o v)
theorem below_sets {w0 : World} {B g : Nat} (hg : B ≤ g) : ∀ (vs : List Value) (o : Nat) {w : World}, Below B w0 w → Below B w0 (w.setCells g o vs)
  | [], _, _, h => h
  | v :: r, o, w, h => below_sets hg r (o + 1) (h.setCell (p := ⟨g, o, none⟩) hg v)
def twoC3 (g : Nat) : Array Value := putL ((twoC 2 g).setIfInBounds 40 (.int .u32 2)) 48 [.bool true, .int .i64 0, .int .i64 150, .int .i64 0, .bool false, .bool false]
def twoS3 (g : Nat) : StV := ⟨2, true, 2, 10, some ⟨g, 0, none⟩, 2, 2, none, 0, 0, true, 150, false⟩
theorem twoF3 (g : Nat) : StF (twoC3 g) (twoS3 g) := by
  constructor <;> simp [twoC3, twoS3, putL, twoC]
theorem may2 : MayL twoI := ⟨by decide, fun i hi => by
  have : i = 0 ∨ i = 1 := by have : i < 2 := hi; omega
  rcases this with rfl | rfl
  · exact ⟨by decide +kernel, fun h => absurd h (by omega)⟩
  · exact ⟨by decide +kernel, fun _ => by decide +kernel⟩⟩
theorem mayS (surge : Int) (g : Nat) (h0 : 0 ≤ surge) (h1 : surge ≤ 65536) : MaySt (twoS surge g) twoI := ⟨⟨(by show (0 : Int) ≤ 10; omega), (by show (10 : Int) ≤ 65536; omega)⟩, ⟨h0, h1⟩, (fun h => by cases h), may2⟩
theorem mayS3 (g : Nat) : MaySt (twoS3 g) twoI := ⟨⟨(by show (0 : Int) ≤ 10; omega), (by show (10 : Int) ≤ 65536; omega)⟩, ⟨(by show (0 : Int) ≤ 2; omega), (by show (2 : Int) ≤ 65536; omega)⟩, (fun _ => ⟨(by show (100 : Int) ≤ 150; omega), (by show (150 : Int) ≤ 200; omega)⟩), may2⟩
theorem ofS2 (g : Nat) : ofV (twoS 2 g) twoI = 2 := by rfl
theorem ofS9 (g : Nat) : ofV (twoS 9 g) twoI = 3 := by rfl
theorem moreS3 (g : Nat) : moreV (twoS3 g) = 5 := by
  show (part 10 (150 - 100)).1 = 5
  decide +kernel
theorem ofS3 (g : Nat) : ofV (twoS3 g) twoI = 7 := by
  unfold ofV
  rw [moreS3]
  rfl
theorem endS3 (g : Nat) : ¬ EndsP (twoS3 g) twoI := fun h => by
  have := h 0 (by decide) (by decide)
  have h2 : (0 : Int) = 2 := this
  omega
theorem wpList_store_box {P : Program} {ops : Array Oper} {rest : List Oper} {op : Oper} {a : Act} {w : World} {Q : Exit → Act → World → Prop} (hgd : op.guard = none) (ty : TypeId) (x y : Operand) (ho : op.op = .store ty x y)
    (g t o : Nat) (cs cells : Array Value) (hb : Boxd w g t cs) (hn : o + cells.size ≤ cs.size) (hx : a.eval x = .pointer (some ⟨g, o, none⟩)) (hy : a.eval y = .agg cells)
    (hi : (P.info? ty).map (·.size) = some cells.size) (h1 : cells.all (·.oneCell') = true)
    (h : ∀ w', Boxd w' g t (putL cs o cells.toList) → Below g w w' → wpList P ops Q rest (a.put op.dst undef) w') : wpList P ops Q (op :: rest) a w :=
  wpList_store_mid hgd ty x y ho g o cells hx hy (hb.there o cells.size hn) hi h1 (h _ (Boxd.sets _ _ hb) (below_sets (Nat.le_refl _) _ _ ⟨rfl, rfl, rfl, Nat.le_refl _, fun _ _ => rfl⟩))
theorem of2_l (g : Nat) (w : World) (h : kInst.C w (some ⟨g, 0, none⟩) 2 twoI) : Calls Try.prog 13 #[.agg (twoC 2 g)] w fun e w' => e = .returned (.int .i64 2) ∧ Below w.heap.size w w' := by
  have := of_yes (twoF 2 g) twoI w h (mayS 2 g (by omega) (by omega))
  rw [ofS2] at this
  exact this
theorem of9_l (g : Nat) (w : World) (h : kInst.C w (some ⟨g, 0, none⟩) 2 twoI) : Calls Try.prog 13 #[.agg (twoC 9 g)] w fun e w' => e = .returned (.int .i64 3) ∧ Below w.heap.size w w' := by
  have := of_yes (twoF 9 g) twoI w h (mayS 9 g (by omega) (by omega))
  rw [ofS9] at this
  exact this
theorem of3_l {cs : Array Value} {g : Nat} (hf : StF cs (twoS3 g)) (w : World) (h : kInst.C w (some ⟨g, 0, none⟩) 2 twoI) : Calls Try.prog 13 #[.agg cs] w fun e w' => e = .returned (.int .i64 7) ∧ Below w.heap.size w w' := by
  have := of_yes hf twoI w h (mayS3 g)
  rw [ofS3] at this
  exact this
theorem ceil3_l {cs : Array Value} {g : Nat} (hf : StF cs (twoS3 g)) (w : World) (h : kInst.C w (some ⟨g, 0, none⟩) 2 twoI) : Calls Try.prog 15 #[.agg cs] w fun e w' => e = .returned (.int .i64 110) ∧ Below w.heap.size w w' := by
  have := ceil_yes hf twoI w h (mayS3 g) (by rw [moreS3]; omega)
  rw [moreS3] at this
  exact this
theorem goes3_l {cs : Array Value} {g : Nat} (hf : StF cs (twoS3 g)) (w : World) : Calls Try.prog 29 #[.agg cs] w fun e w' => e = .returned (.bool true) ∧ Below w.heap.size w w' := (goes_calls hf w).mono fun _ _ h => ⟨h.1, h.2.below⟩
theorem ends3_l {cs : Array Value} {g : Nat} (hf : StF cs (twoS3 g)) (w : World) (h : kInst.C w (some ⟨g, 0, none⟩) 2 twoI) : Calls Try.prog 12 #[.agg cs] w fun e w' => e = .returned (.bool false) ∧ Below w.heap.size w w' :=
  (ends_yes hf twoI w h (mayS3 g) rfl).mono fun _ _ hh => by
    obtain ⟨⟨b, rfl, hb⟩, hw⟩ := hh
    cases b with
    | false => exact ⟨rfl, hw⟩
    | true => exact absurd (hb.1 rfl) (endS3 g)
set_option maxHeartbeats 4000000 in
set_option maxRecDepth 100000 in
theorem lives25 (w : World) : Calls Try.prog 11 #[] w fun e w' => e = .returned (.bool true) ∧ Below w.heap.size w w' := by
  have f40 : ∀ g, (twoC 2 g)[40]? = some (.int .u32 0) := fun _ => rfl
  go_enter Try.func11, Try.ntmps11
  go_wp2_with (first
    | (go_at_call 28; refine (two_calls _ _).mono ?_; rintro e w4 ⟨g1, rfl, hi, hw⟩; have n1 := Lib.hid (HB.out.below hw); have n2 := Lib.hid (Kd.C_below HI.out hw); have n3 := Lib.hid (below_step HW.out hw); clear HB HI HW hw; have HB := n1; have HI := n2; have HW := n3; clear n1 n2 n3; have HI1 := Lib.hid hi; clear hi)
    | (go_at_call 28; refine (two_calls _ _).mono ?_; rintro e w1 ⟨g0, rfl, hi, hw⟩; have HI0 := Lib.hid hi; have HW0 := Lib.hid hw; clear hi hw)
    | ((with_reducible refine gate_storeT 36 rfl ?_); refine wpList_store_row rfl 36 _ _ rfl _ _ rfl rfl 36 _ (heap_alloc_new _ _) (by kernel_rfl) rfl (by simp [Value.oneCell', twoC]) ?_; rw [setRow_alloc])
    | ((with_reducible refine gate_storeT 33 rfl ?_); refine wpList_store_box rfl 33 _ _ rfl w1.heap.size 36 48 _ _ (Boxd.new w1 36 ((twoC 2 g0).setIfInBounds 40 (.int .u32 2))) (by simp [twoC]) rfl rfl (by kernel_rfl) (by simp [Value.oneCell']) ?_; intro w2 hb2 hw2; have hb3 : Boxd w2 w1.heap.size 36 (twoC3 g0) := hb2; have hf3 := twoF3 g0; have hz := hf3.size; generalize twoC3 g0 = c3 at hb3 hf3 hz; have hw1 := low_alloc_box hw2; have HB := Lib.hid hb3; have HF3 := Lib.hid hf3; have HZ := Lib.hid hz; have HW := Lib.hid (below_step HW0.out hw1); have HI := Lib.hid (Kd.C_below HI0.out hw1); clear hb2 hb3 hf3 hz hw1 hw2)
    | (go_at_call 13; (first | (with_reducible refine (of2_l _ _ HI1.out).mono ?_) | (with_reducible refine (of9_l _ _ HI1.out).mono ?_) | (with_reducible refine (of3_l HF3.out _ HI.out).mono ?_)); rintro e w5 ⟨rfl, hw⟩; have n1 := Lib.hid (HB.out.below hw); have n2 := Lib.hid (Kd.C_below HI.out hw); have n3 := Lib.hid (below_step HW.out hw); clear HB HI HW hw; have HB := n1; have HI := n2; have HW := n3; clear n1 n2 n3)
    | ((with_reducible refine gate_load 36 rfl ?_); refine load_row_g (by rfl) 36 _ rfl _ rfl 36 _ _ _ HB.out Try.underlying36 rfl (by rw [HZ.out]; kernel_rfl) ?_)
    | (go_at_call 15; refine (ceil3_l HF3.out _ HI.out).mono ?_; rintro e w5 ⟨rfl, hw⟩; have n1 := Lib.hid (HB.out.below hw); have n2 := Lib.hid (Kd.C_below HI.out hw); have n3 := Lib.hid (below_step HW.out hw); clear HB HI HW hw; have HB := n1; have HI := n2; have HW := n3; clear n1 n2 n3)
    | (go_at_call 29; refine (goes3_l HF3.out _).mono ?_; rintro e w5 ⟨rfl, hw⟩; have n1 := Lib.hid (HB.out.below hw); have n2 := Lib.hid (Kd.C_below HI.out hw); have n3 := Lib.hid (below_step HW.out hw); clear HB HI HW hw; have HB := n1; have HI := n2; have HW := n3; clear n1 n2 n3)
    | (go_at_call 12; refine (ends3_l HF3.out _ HI.out).mono ?_; rintro e w5 ⟨rfl, hw⟩; have n1 := Lib.hid (HB.out.below hw); have n2 := Lib.hid (Kd.C_below HI.out hw); have n3 := Lib.hid (below_step HW.out hw); clear HB HI HW hw; have HB := n1; have HI := n2; have HW := n3; clear n1 n2 n3))
  go_ret
  exact ⟨rfl, HW.out⟩
end Go.Proofs.Ytnlcpgeapgnkgaa.H
