/- insertionSortCmpFunc over name.Sort's closure: the shelf's contract laid. -/
import Derived.Test.YtnlcpgeapgnkgaaAll
import Derived.Shelf.SlSortCmp.Insertion1
import Derived.Shelf.SlSortCmp.QuietGrown
namespace Go.Proofs.Ytnlcpgeapgnkgaa.H
open Go.RowKit Go.Proofs.YtnlcpgeapgnkgaaW.PrintWords Go.Proofs.YtnlcpgeapgnkgaaW.PrintLast Go.Proofs.YtnlcpgeapgnkgaaW.PrintMore
open Go.Shelf Go.Sort
set_option linter.unusedVariables false
set_option linter.unusedSimpArgs false

def lay20_ren : Go.Shelf.Ren := ⟨fun | 20 => 63 | n => n, fun | 0 => 0 | 3 => 3 | 4 => 4 | 22 => 49 | 24 => 3 | 25 => 72 | n => n, fun | n => n⟩
theorem lay20 : SlLaysF.n20 Try.prog lay20_ren := {
  mixed := by kernel_rfl
  f20 := ⟨Try.f63.name, by decide, Try.func63.trans (congrArg some (by kernel_rfl))⟩
  t0 := Try.underlying0
  a0 := Try.isAgg0
  z0 := Try.sizeOf0
  v0 := Try.zeroValue0
  t3 := Try.underlying3
  a3 := Try.isAgg3
  z3 := Try.sizeOf3
  v3 := Try.zeroValue3
  t4 := Try.underlying4
  a4 := Try.isAgg4
  z4 := Try.sizeOf4
  v4 := Try.zeroValue4
  t22 := Try.underlying49
  a22 := Try.isAgg49
  z22 := Try.sizeOf49
  v22 := Try.zeroValue49
  a24 := Try.isAgg3
  z24 := Try.sizeOf3
  t25 := Try.underlying72
  a25 := Try.isAgg72
  z25 := Try.sizeOf72
  v25 := Try.zeroValue72 }

/-- The closure: a captured slice of texts in block g; two places within it. -/
theorem sort1_calls (g : Nat) (ad : Addr) (c n : Nat) (l : List ByteArray) (i j : Fin n) (w : World) 
    (hg : g < w.heap.size) (hbox : w.cell? ⟨g, 0, none⟩ = some (.slice (some ad) n c)) (hC : ∀ k, k < n → w.cell? (ad.add k) = some (.string (l.getD k ByteArray.empty))) (hb : ad.block < w.heap.size) :
    Calls Try.prog 48 #[.int .i64 (i.val : Int), .int .i64 (j.val : Int), .pointer (some ⟨g, 0, none⟩)] w fun e w' => e = .returned (.int .i64 (cmpS (l.getD i.val ByteArray.empty) (l.getD j.val ByteArray.empty))) ∧ ∃ q os', w' = grow (w.drewN q) os' := by
  have hi := i.isLt
  have hj := j.isLt
  obtain ⟨i, hi'⟩ := i
  obtain ⟨j, hj'⟩ := j
  have x1 := hC i hi'
  have x2 := hC j hj'
  have y0 := fun n os => cell_grown (w := w) (a := ⟨g, 0, none⟩) hg hbox n os
  have y1 := fun n os => cell_grown (w := w) (a := ad.add i) (by rw [add_block]; exact hb) x1 n os
  have y2 := fun n os => cell_grown (w := w) (a := ad.add j) (by rw [add_block]; exact hb) x2 n os
  show Calls Try.prog 48 #[.int .i64 (i : Int), .int .i64 (j : Int), .pointer (some ⟨g, 0, none⟩)] w fun e w' => e = .returned (.int .i64 (cmpS (l.getD i ByteArray.empty) (l.getD j ByteArray.empty))) ∧ ∃ q os', w' = grow (w.drewN q) os'
  obtain ⟨a, ha⟩ : ∃ a, l.getD i ByteArray.empty = a := ⟨_, rfl⟩
  obtain ⟨b, hb2⟩ : ∃ b, l.getD j ByteArray.empty = b := ⟨_, rfl⟩
  rw [ha] at x1 y1 ⊢
  rw [hb2] at x2 y2 ⊢
  have K : ∀ W : World, Calls Try.prog 18 #[.string a, .string b] W fun e w' => e = .returned (.int .i64 (cmpS a b)) ∧ ∃ q os', w' = grow (W.drewN q) os' := by
    intro W
    refine (compare_calls a b W).mono ?_
    rintro e w' ⟨rfl, o, rfl⟩
    exact ⟨rfl, 0, #[o], rfl⟩
  obtain ⟨r, hr⟩ : ∃ r, cmpS a b = r := ⟨_, rfl⟩
  rw [hr] at K ⊢
  have KH := Lib.hid K
  have mixed : Try.prog.follows .mixedOrders = true := by kernel_rfl
  clear K hr ha hb2 x1 x2 hC hbox
  go_enter Try.func48, Try.ntmps48
  go_wp2_with (fail)
  go_quiet_grown (first | (go_at_call 18; exact Calls.grown_of (KH.out _)))
  go_wp2_with (fail)
  go_ret
  exact ⟨rfl, _, _, rfl⟩

theorem size_putRow {α : Type} [Inhabited α] (enc : α → Value) (w : World) (m blk off : Nat) (dk : Array α) : (putRow enc (Sort.ahead w m) blk off dk).heap.size = w.heap.size := by
  simp [putRow, mapBlock]
theorem cell_sortWorld {α : Type} [Inhabited α] (enc : α → Value) (w : World) (blk off m : Nat) (dk : Array α) (os : Array Obj) (a : Addr) (h1 : a.block ≠ blk) (h2 : a.block < w.heap.size) :
    (sortWorld enc w blk off m dk os).cell? a = w.cell? a := by
  unfold sortWorld
  rw [cell?_grow _ _ _ (by rw [size_putRow]; exact h2), cell?_putRow_other _ _ _ _ _ _ (.inl h1)]
  rfl
def encF (n : Nat) : Fin (n + 1) → Value := fun i => .int .i64 (i.val : Int)
def cfF (n : Nat) (l : List ByteArray) : Fin (n + 1) → Fin (n + 1) → Int := fun i j => cmpS (l.getD i.val ByteArray.empty) (l.getD j.val ByteArray.empty)
theorem sort1_lays (g : Nat) (ad : Addr) (c n : Nat) (l : List ByteArray) (blk off size : Nat) (w : World)
    (hg : g < w.heap.size) (hbox : w.cell? ⟨g, 0, none⟩ = some (.slice (some ad) (n + 1) c)) (hC : ∀ k, k < n + 1 → w.cell? (ad.add k) = some (.string (l.getD k ByteArray.empty))) (hb : ad.block < w.heap.size)
    (ng : g ≠ blk) (na : ad.block ≠ blk) : CmpLays1 Try.prog 48 #[.pointer (some ⟨g, 0, none⟩)] (encF n) (cfF n l) blk off size w := by
  intro m os dk _ x y
  have hs : w.heap.size ≤ (sortWorld (encF n) w blk off m dk os).heap.size := by
    unfold sortWorld
    rw [size_grow, size_putRow]
    exact Nat.le_add_right _ _
  refine sort1_calls g ad c (n + 1) l x y _ (by omega) ?_ ?_ (by omega)
  · rw [cell_sortWorld _ _ _ _ _ _ _ _ ng hg]; exact hbox
  · intro k hk
    rw [cell_sortWorld _ _ _ _ _ _ _ _ (by rw [add_block]; exact na) (by rw [add_block]; exact hb)]; exact hC k hk

set_option maxRecDepth 100000 in
theorem stable_calls (g : Nat) (ad : Addr) (c n : Nat) (l : List ByteArray) (blk cap : Nat) (d : Array (Fin (n + 1))) (w : World)
    (hg : g < w.heap.size) (hbox : w.cell? ⟨g, 0, none⟩ = some (.slice (some ad) (n + 1) c)) (hC : ∀ k, k < n + 1 → w.cell? (ad.add k) = some (.string (l.getD k ByteArray.empty))) (hb : ad.block < w.heap.size)
    (ng : g ≠ blk) (na : ad.block ≠ blk) (hH : Holds (encF n) w blk 0 d) (hblk : blk < w.heap.size) (hd : d.size < 20) :
    Calls Try.prog 58 #[.slice (some ⟨blk, 0, none⟩) d.size cap, .int .i64 d.size, .func (.func 48) #[] #[.pointer (some ⟨g, 0, none⟩)]] w fun e w' => e = .returned (.tuple #[]) ∧ SW (encF n) w blk 0 (insertionSort (ltOf (cfF n l)) d 0 d.size) w' := by
  have eg : ∀ args w, (callFunc 48 args).run Try.prog w = .ok (.enter 48 args) w := enters_of Try.func48 (by kernel_rfl) rfl
  have K := Any.insertionSortCmpFunc_s lay20 (encF n) (cfF n l) 48 #[.pointer (some ⟨g, 0, none⟩)] blk 0 cap 0 d.size d d w w eg (sort1_lays g ad c n l blk 0 d.size w hg hbox hC hb ng na) ⟨fun _ => rfl, hH, hblk⟩ rfl (SW.start hH) (by omega) (Nat.le_refl _) (by omega)
  change Calls Try.prog 63 _ _ _ at K
  obtain ⟨D, hD⟩ : ∃ D, insertionSort (ltOf (cfF n l)) d 0 d.size = D := ⟨_, rfl⟩
  rw [hD] at K ⊢
  obtain ⟨m, hm⟩ : ∃ m, d.size = m := ⟨_, rfl⟩
  rw [hm] at K hd ⊢
  have KH := Lib.hid K
  clear K hD hm hbox hC hH eg
  go_enter Try.func58, Try.ntmps58
  go_wp2_with (fail)
  refine wp_loop_rounds 2 ?_
  rw [rounds_succ]
  go_wp2_with (first | (go_at_call 63; refine KH.out.mono ?_; rintro e w1 ⟨rfl, hs⟩; have HS := Lib.hid hs; clear hs))
  refine wp_loop_rounds 2 ?_
  rw [rounds_succ]
  go_wp2_with (fail)
  go_end0
  exact ⟨rfl, HS.out⟩
theorem sortStable_calls (g : Nat) (ad : Addr) (c n : Nat) (l : List ByteArray) (blk cap : Nat) (d : Array (Fin (n + 1))) (w : World)
    (hg : g < w.heap.size) (hbox : w.cell? ⟨g, 0, none⟩ = some (.slice (some ad) (n + 1) c)) (hC : ∀ k, k < n + 1 → w.cell? (ad.add k) = some (.string (l.getD k ByteArray.empty))) (hb : ad.block < w.heap.size)
    (ng : g ≠ blk) (na : ad.block ≠ blk) (hH : Holds (encF n) w blk 0 d) (hblk : blk < w.heap.size) (hd : d.size < 20) :
    Calls Try.prog 47 #[.slice (some ⟨blk, 0, none⟩) d.size cap, .func (.func 48) #[] #[.pointer (some ⟨g, 0, none⟩)]] w fun e w' => e = .returned (.tuple #[]) ∧ SW (encF n) w blk 0 (insertionSort (ltOf (cfF n l)) d 0 d.size) w' := by
  have K := Lib.hid (stable_calls g ad c n l blk cap d w hg hbox hC hb ng na hH hblk hd)
  obtain ⟨D, hD⟩ : ∃ D, insertionSort (ltOf (cfF n l)) d 0 d.size = D := ⟨_, rfl⟩
  rw [hD] at K ⊢
  obtain ⟨m, hm⟩ : ∃ m, d.size = m := ⟨_, rfl⟩
  rw [hm] at K hd ⊢
  clear hD hm hbox hC hH
  go_enter Try.func47, Try.ntmps47
  go_wp2_with (first | (go_at_call 58; refine K.out.mono ?_; rintro e w1 ⟨rfl, hs⟩; have HS := Lib.hid hs; clear hs))
  go_end0
  exact ⟨rfl, HS.out⟩
end Go.Proofs.Ytnlcpgeapgnkgaa.H
