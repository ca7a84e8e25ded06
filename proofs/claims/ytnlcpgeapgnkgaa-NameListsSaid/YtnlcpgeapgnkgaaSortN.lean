/- name.Sort of any list: the texts in their order, of equal ones the earlier first, and where each stood. -/
import Derived.Test.YtnlcpgeapgnkgaaStabW
import Derived.Test.YtnlcpgeapgnkgaaSort
import Derived.Test.YtnlcpgeapgnkgaaLaw02
namespace Go.Proofs.Ytnlcpgeapgnkgaa.H
open Go.RowKit Go.Proofs.YtnlcpgeapgnkgaaW.PrintWords Go.Proofs.YtnlcpgeapgnkgaaW.PrintLast Go.Proofs.YtnlcpgeapgnkgaaW.PrintMore
open Go.Shelf Go.Sort
set_option linter.unusedVariables false
set_option linter.unusedSimpArgs false

/-- D are the places of l in order. -/
def SortP (l : List ByteArray) (D : List Nat) : Prop :=
  D.Perm (List.range l.length) ∧ ∀ i j, i < j → j < D.length → cmpS (l.getD (D.getD i 0) ByteArray.empty) (l.getD (D.getD j 0) ByteArray.empty) < 0 ∨ (cmpS (l.getD (D.getD i 0) ByteArray.empty) (l.getD (D.getD j 0) ByteArray.empty) = 0 ∧ D.getD i 0 ≤ D.getD j 0)
def txt (l : List ByteArray) (D : List Nat) : List ByteArray := D.map fun k => l.getD k ByteArray.empty
def plc (D : List Nat) : List Int := D.map fun k : Nat => (k : Int)
theorem cfF_ok (n : Nat) (l : List ByteArray) : CfOk (cfF n l) := ⟨fun x y => cmpS_neg _ _, fun x y z h1 h2 => cmpS_trans h1 h2⟩
def idA (n : Nat) : Array (Fin (n + 1)) := Array.ofFn fun i => i
theorem idA_size (n : Nat) : (idA n).size = n + 1 := by simp [idA]
theorem idA_get (n k : Nat) (h : k < n + 1) : (idA n)[k]! = ⟨k, h⟩ := by
  rw [getElem!_pos (idA n) k (by rw [idA_size]; exact h)]
  simp [idA]
theorem idA_val (n k : Nat) (h : k < n + 1) : ((idA n)[k]!).val = k := by rw [idA_get n k h]
theorem idA_list (n : Nat) : (idA n).toList.map (fun i => i.val) = List.range (n + 1) := by
  apply List.ext_getElem
  · simp [idA]
  · intro i h1 h2
    rw [List.getElem_map, List.getElem_range, Array.getElem_toList]
    have hi : i < n + 1 := by simpa using h2
    have e := idA_val n i hi
    rw [getElem!_pos (idA n) i (by rw [idA_size]; exact hi)] at e
    exact e
def vals {n : Nat} (d : Array (Fin (n + 1))) : List Nat := d.toList.map (fun i => i.val)
theorem vals_length {n : Nat} (d : Array (Fin (n + 1))) : (vals d).length = d.size := by simp [vals]
theorem vals_get {n : Nat} (d : Array (Fin (n + 1))) (i : Nat) (h : i < d.size) : (vals d).getD i 0 = (d[i]!).val := by
  rw [getElem!_pos d i h]
  simp [vals, List.getD_eq_getElem?_getD, h]
theorem sortP_of {n : Nat} {l : List ByteArray} (hl : l.length = n + 1) {d : Array (Fin (n + 1))} (h : MPost (cfF n l) (fun i => i.val) 0 (n + 1) (idA n) d) : SortP l (vals d) ∧ d.size = n + 1 := by
  obtain ⟨⟨hs, _, hp⟩, ho⟩ := h
  have hs2 := idA_size n
  have hd : d.size = n + 1 := by omega
  refine ⟨⟨?_, fun i j hij hj => ?_⟩, hd⟩
  · rw [hl, ← idA_list n]
    have e1 : d.extract 0 (n + 1) = d := Array.extract_eq_self_of_le (by omega)
    have e2 : (idA n).extract 0 (n + 1) = idA n := Array.extract_eq_self_of_le (by omega)
    rw [e1, e2] at hp
    exact hp.map _
  · rw [vals_length] at hj
    rw [vals_get d i (by omega), vals_get d j hj]
    exact ho i j (Nat.zero_le _) hij (by omega)
theorem sortP_nil : SortP [] [] := ⟨List.Perm.refl _, fun i j _ h => absurd h (by simp)⟩
theorem SortP.len {l : List ByteArray} {D : List Nat} (h : SortP l D) : D.length = l.length := by have := h.1.length_eq; simpa using this
theorem SortP.lt {l : List ByteArray} {D : List Nat} (h : SortP l D) {i : Nat} (hi : i < D.length) : D.getD i 0 < l.length := by
  have : D.getD i 0 ∈ D := by rw [List.getD_eq_getElem?_getD, List.getElem?_eq_getElem hi]; exact List.getElem_mem hi
  simpa using h.1.mem_iff.1 this
theorem intsN {n : Nat} {W : World} {g : Nat} {d : Array (Fin (n + 1))} (h : Holds (encF n) W g 0 d) (hm : d.size ≤ 9223372036854775807) : Kd.C (Kd.int .i64) W (some ⟨g, 0, none⟩) d.size (plc (vals d)) := by
  refine C_cells W g d.size _ (by simp [plc, vals_length]) hm (fun j p hj => ?_)
  have hj1 : j < d.size := by have := (List.getElem?_eq_some_iff.1 hj).1; simpa [plc, vals_length] using this
  have h1 := (h j hj1).1
  rw [Nat.zero_add] at h1
  rw [h1]
  have e : p = ((d[j]!).val : Int) := by
    unfold plc at hj
    rw [List.getElem?_map] at hj
    have h2 := vals_get d j hj1
    rw [List.getD_eq_getElem?_getD] at h2
    cases hv : (vals d)[j]? with
    | none => rw [hv] at hj; cases hj
    | some q => rw [hv] at hj h2; simp at hj h2; rw [← hj, h2]
  rw [e]; rfl
theorem upTo_rd (n k : Nat) (h : k < n) : rdOf 0 (upTo n) (k : Int) = (k : Int) := by
  unfold rdOf upTo
  rw [Int.toNat_natCast]
  simp [List.getD_eq_getElem?_getD, h]

set_option maxRecDepth 100000 in
theorem insNone_calls (p : Option Addr) (cap : Nat) (fv : Value) (w : World) : Calls Try.prog 63 #[.slice p 0 cap, .int .i64 0, .int .i64 0, fv] w fun e w' => e = .returned (.tuple #[]) ∧ w = w' := by
  go_enter Try.func63, Try.ntmps63
  go_wp2
  refine wp_loop_rounds 1 ?_
  rw [rounds_succ]
  go_wp2
  go_end0
  exact ⟨rfl, rfl⟩
set_option maxRecDepth 100000 in
theorem stableNone_calls (p : Option Addr) (cap : Nat) (fv : Value) (w : World) : Calls Try.prog 47 #[.slice p 0 cap, fv] w fun e w' => e = .returned (.tuple #[]) ∧ w = w' := by
  have K : ∀ W, Calls Try.prog 58 #[.slice p 0 cap, .int .i64 0, fv] W fun e w' => e = .returned (.tuple #[]) ∧ W = w' := by
    intro W
    go_enter Try.func58, Try.ntmps58
    go_wp2
    refine wp_loop_rounds 1 ?_
    rw [rounds_succ]
    go_wp2_with (first | (go_at_call 63; refine (insNone_calls _ _ _ _).mono ?_; rintro e w1 ⟨rfl, rfl⟩))
    refine wp_loop_rounds 1 ?_
    rw [rounds_succ]
    go_wp2
    go_end0
    exact ⟨rfl, rfl⟩
  have KH := Lib.hid K
  clear K
  go_enter Try.func47, Try.ntmps47
  go_wp2_with (first | (go_at_call 58; refine (KH.out _).mono ?_; rintro e w1 ⟨rfl, rfl⟩))
  go_end0
  exact ⟨rfl, rfl⟩

/-- The sort of the places that were counted. -/
theorem sortPlaces (g : Nat) (ad : Addr) (c n : Nat) (l : List ByteArray) (hl : l.length = n + 1) (blk cap : Nat) (w : World) (hn : n + 1 < 1152921504606846976)
    (hg : g < w.heap.size) (hbox : w.cell? ⟨g, 0, none⟩ = some (.slice (some ad) (n + 1) c)) (hC : ∀ k, k < n + 1 → w.cell? (ad.add k) = some (.string (l.getD k ByteArray.empty))) (hb : ad.block < w.heap.size)
    (ng : g ≠ blk) (na : ad.block ≠ blk) (hH : Holds (encF n) w blk 0 (idA n)) (hblk : blk < w.heap.size) :
    Calls Try.prog 47 #[.slice (some ⟨blk, 0, none⟩) (n + 1 : Nat) cap, .func (.func 48) #[] #[.pointer (some ⟨g, 0, none⟩)]] w fun e w' => e = .returned (.tuple #[]) ∧ ∃ d' : Array (Fin (n + 1)), SortP l (vals d') ∧ d'.size = n + 1 ∧ SW (encF n) w blk 0 d' w' ∧ Kd.C (Kd.int .i64) w' (some ⟨blk, 0, none⟩) (n + 1) (plc (vals d')) := by
  have eg : ∀ args w, (callFunc 48 args).run Try.prog w = .ok (.enter 48 args) w := enters_of Try.func48 (by kernel_rfl) rfl
  have hs := idA_size n
  have K := sortStableN_calls n 48 blk cap #[.pointer (some ⟨g, 0, none⟩)] (cfF n l) (fun i => i.val) (cfF_ok n l) (idA n) w eg (sort1_lays g ad c n l blk 0 (idA n).size w hg hbox hC hb ng na) hH hblk (by omega) (fun k hk => idA_val n k (by omega))
  rw [hs] at K
  refine K.mono ?_
  rintro e w' ⟨rfl, d', P, hS⟩
  obtain ⟨h1, h2⟩ := sortP_of hl P
  refine ⟨rfl, d', h1, h2, hS, ?_⟩
  have := intsN (hS.holds hblk hH (by omega)) (by omega)
  rw [h2] at this
  exact this
end Go.Proofs.Ytnlcpgeapgnkgaa.H
