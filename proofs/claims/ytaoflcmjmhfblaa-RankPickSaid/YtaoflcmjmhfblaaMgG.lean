/- rank: the orders, plain: each is an order of the open pools' places. -/
import Derived.Test.YtaoflcmjmhfblaaMgF
import Derived.Great.Walk
namespace Go.Proofs.Ytaoflcmjmhfblaa.R
open Go.RowKit Go.Proofs.YtaoflcmjmhfblaaW.PrintWords Go.Proofs.YtaoflcmjmhfblaaW.PrintLast Go.Proofs.YtaoflcmjmhfblaaW.PrintMore Go.Proofs.Ytaoflcmjmhfblaa.H Go.Shelf
set_option linter.unusedVariables false
set_option linter.unusedSimpArgs false
theorem cmpI_lt (x y : Int) : cmpI x y < 0 ↔ x < y := by unfold cmpI; split <;> (try split) <;> omega
theorem cmpI_le (x y : Int) : cmpI x y ≤ 0 ↔ x ≤ y := by unfold cmpI; split <;> (try split) <;> omega
theorem cmpI_zero (x y : Int) : cmpI x y = 0 ↔ x = y := by unfold cmpI; split <;> (try split) <;> omega
theorem cmpI_neg (x y : Int) : cmpI y x = -cmpI x y := by unfold cmpI; (repeat' split) <;> omega
/-- The first order that tells two apart; the lesser place, where none does. -/
def firstK : List (Int → Int → Int) → Int → Int → Int
  | [], i, k => cmpI i k
  | f :: r, i, k => if f i k = 0 then firstK r i k else f i k
theorem firstC_eq : ∀ (fs : List OrdF) (i k : Int), firstC fs i k = firstK (fs.map (·.cf)) i k
  | [], i, k => rfl
  | f :: r, i, k => by
    show (if f.cf i k = 0 then firstC r i k else f.cf i k) = (if f.cf i k = 0 then firstK (r.map (·.cf)) i k else f.cf i k)
    rw [firstC_eq r]
theorem ordOn_by (g : Int → Int) (l : List Int) : OrdOn (fun i k => cmpI (g i) (g k)) l where
  neg x _ y _ := cmpI_neg _ _
  trans x _ y _ z _ h1 h2 := by
    rw [cmpI_le] at h1 h2 ⊢
    rw [cmpI_lt, cmpI_lt]
    exact ⟨by omega, fun h => by omega⟩
theorem OrdOn.trans2 {cf : Int → Int → Int} {l : List Int} (h : OrdOn cf l) {x y z : Int} (hx : x ∈ l) (hy : y ∈ l) (hz : z ∈ l) (h1 : cf x y ≤ 0) (h2 : cf y z < 0) : cf x z < 0 := by
  have h3 := (h.trans x hx y hy z hz h1 (by omega)).1
  rcases Int.lt_or_eq_of_le h3 with g | g
  · exact g
  · have n1 := h.neg x hx z hz
    have n2 := h.neg y hy z hz
    have h4 := (h.trans z hz x hx y hy (by omega) h1).1
    omega
theorem OrdOn.lex {cf r : Int → Int → Int} {l : List Int} (h : OrdOn cf l) (k : OrdOn r l) : OrdOn (fun i j => if cf i j = 0 then r i j else cf i j) l where
  neg x hx y hy := by
    have n1 := h.neg x hx y hy
    have n2 := k.neg x hx y hy
    show (if cf y x = 0 then r y x else cf y x) = -(if cf x y = 0 then r x y else cf x y)
    by_cases e : cf x y = 0
    · rw [if_pos e, if_pos (by omega)]; exact n2
    · rw [if_neg e, if_neg (by omega)]; exact n1
  trans x hx y hy z hz h1 h2 := by
    have t1 := h.trans x hx y hy z hz
    have t2 := @OrdOn.trans2 cf l h x y z hx hy hz
    have t3 := k.trans x hx y hy z hz
    by_cases e1 : cf x y = 0
    · rw [if_pos e1] at h1 ⊢
      by_cases e2 : cf y z = 0
      · rw [if_pos e2] at h2
        have e3 : cf x z = 0 := by
          have a := (t1 (by omega) (by omega)).1
          have n1 := h.neg x hx z hz
          have n2 := h.neg x hx y hy
          have n3 := h.neg y hy z hz
          have b := (h.trans z hz y hy x hx (by omega) (by omega)).1
          omega
        rw [if_pos e3]
        exact t3 h1 h2
      · rw [if_neg e2] at h2
        have a := t2 (by omega) (by omega)
        rw [if_neg (by omega)]
        exact ⟨by omega, fun _ => a⟩
    · rw [if_neg e1] at h1 ⊢
      have hlt : cf x y < 0 := by omega
      have h2' : cf y z ≤ 0 := by
        by_cases e2 : cf y z = 0
        · omega
        · rw [if_neg e2] at h2; exact h2
      have a := (t1 (by omega) h2').2 hlt
      rw [if_neg (by omega)]
      exact ⟨by omega, fun _ => a⟩
theorem ordOn_first {l : List Int} : ∀ {fs : List (Int → Int → Int)}, (∀ f ∈ fs, OrdOn f l) → OrdOn (firstK fs) l
  | [], _ => ordOn_by (fun i => i) l
  | f :: r, h => OrdOn.lex (h f (List.mem_cons_self ..)) (ordOn_first (fun g hg => h g (List.mem_cons_of_mem _ hg)))
/-- A place that is open and fit to be compared by its price. -/
def FitP (ps : List PoolV) (qs : List QuoteV) (i : Int) : Prop := 1 ≤ (pAt ps i).weight ∧ (pAt ps i).weight ≤ 100 ∧ 1 ≤ (qAt qs i).price ∧ (qAt qs i).price ≤ 1073741824
theorem priceC_eq {ps : List PoolV} {qs : List QuoteV} {i k : Int} (hi : FitP ps qs i) (hk : FitP ps qs k) : priceC ps qs i k = cmpI ((qAt qs i).price * (pAt ps k).weight) ((qAt qs k).price * (pAt ps i).weight) := by
  unfold priceC cheaperI withinI
  obtain ⟨a1, a2, a3, a4⟩ := hi
  obtain ⟨b1, b2, b3, b4⟩ := hk
  simp [a1, a2, a3, a4, b1, b2, b3, b4]
theorem ordOn_price {ps : List PoolV} {qs : List QuoteV} {l : List Int} (h : ∀ x ∈ l, FitP ps qs x) : OrdOn (priceC ps qs) l where
  neg x hx y hy := by
    rw [priceC_eq (h x hx) (h y hy), priceC_eq (h y hy) (h x hx)]
    exact cmpI_neg _ _
  trans x hx y hy z hz h1 h2 := by
    rw [priceC_eq (h x hx) (h y hy)] at h1 ⊢
    rw [priceC_eq (h y hy) (h z hz)] at h2
    rw [priceC_eq (h x hx) (h z hz)]
    obtain ⟨a1, a2, a3, a4⟩ := h x hx
    obtain ⟨b1, b2, b3, b4⟩ := h y hy
    obtain ⟨c1, c2, c3, c4⟩ := h z hz
    generalize (qAt qs x).price = p1 at *
    generalize (qAt qs y).price = p2 at *
    generalize (qAt qs z).price = p3 at *
    generalize (pAt ps x).weight = w1 at *
    generalize (pAt ps y).weight = w2 at *
    generalize (pAt ps z).weight = w3 at *
    rw [cmpI_le] at h1 h2 ⊢
    rw [cmpI_lt, cmpI_lt]
    have m1 : p1 * w2 * w3 ≤ p2 * w1 * w3 := Int.mul_le_mul_of_nonneg_right h1 (by omega)
    have m2 : p2 * w3 * w1 ≤ p3 * w2 * w1 := Int.mul_le_mul_of_nonneg_right h2 (by omega)
    have r1 : p2 * w1 * w3 = p2 * w3 * w1 := by rw [Int.mul_assoc, Int.mul_comm w1 w3, ← Int.mul_assoc]
    have r2 : p3 * w2 * w1 = p3 * w1 * w2 := by rw [Int.mul_assoc, Int.mul_comm w2 w1, ← Int.mul_assoc]
    have r3 : p1 * w2 * w3 = p1 * w3 * w2 := by rw [Int.mul_assoc, Int.mul_comm w2 w3, ← Int.mul_assoc]
    refine ⟨?_, fun hlt => ?_⟩
    · have : p1 * w3 * w2 ≤ p3 * w1 * w2 := by omega
      exact Int.le_of_mul_le_mul_right this (by omega)
    · have m3 : p1 * w2 * w3 < p2 * w1 * w3 := Int.mul_lt_mul_of_pos_right hlt (by omega)
      have : p1 * w3 * w2 < p3 * w1 * w2 := by omega
      exact Int.lt_of_mul_lt_mul_right this (by omega)
theorem ordOn_score (qs : List QuoteV) (l : List Int) : OrdOn (scoreC qs) l where
  neg x _ y _ := cmpI_neg _ _
  trans x _ y _ z _ h1 h2 := by
    unfold scoreC at h1 h2 ⊢
    rw [cmpI_le] at h1 h2 ⊢
    rw [cmpI_lt, cmpI_lt]
    exact ⟨by omega, fun h => by omega⟩
theorem ordOn_prio (ps : List PoolV) (l : List Int) : OrdOn (prioC ps) l := ordOn_by (fun i => (pAt ps i).prio) l
theorem ordOn_sum (m1 m2 : List (Int × Int)) (l : List Int) : OrdOn (sumC m1 m2) l := ordOn_by (fun i => (lookL m1 i).getD 0 + (lookL m2 i).getD 0) l
/-- What the open pools' places are. -/
theorem thoseL_mem {b : PoolV → QuoteV → Bool} {ps : List PoolV} {qs : List QuoteV} {m : Nat} {x : Int} : x ∈ thoseL b ps qs m ↔ ∃ i : Nat, x = i ∧ i < m ∧ b (ps.getD i zPool) (qs.getD i zQuote) = true := by
  unfold thoseL
  rw [List.mem_map]
  constructor
  · rintro ⟨i, hi, rfl⟩
    obtain ⟨h1, h2⟩ := List.mem_filter.1 hi
    exact ⟨i, rfl, List.mem_range.1 h1, h2⟩
  · rintro ⟨i, rfl, h1, h2⟩
    exact ⟨i, List.mem_filter.2 ⟨List.mem_range.2 h1, h2⟩, rfl⟩
theorem thoseL_nodup (b : PoolV → QuoteV → Bool) (ps : List PoolV) (qs : List QuoteV) (m : Nat) : (thoseL b ps qs m).Nodup := by
  unfold thoseL
  unfold List.Nodup
  rw [List.pairwise_map]
  refine List.Pairwise.imp ?_ (List.Pairwise.filter _ (List.nodup_range (n := m)))
  intro a c h hh
  exact h (Int.ofNat.inj hh)
theorem opens_in {ps : List PoolV} {qs : List QuoteV} {spot : Bool} {now x : Int} (h : x ∈ opensL ps qs spot now) : InP ps qs x ∧ 1 ≤ (qAt qs x).price ∧ (qAt qs x).till ≤ now ∧ (pAt ps x).spot = spot := by
  obtain ⟨i, rfl, h1, h2⟩ := thoseL_mem.1 h
  unfold openP openQ at h2
  simp only [Bool.and_eq_true, beq_iff_eq, decide_eq_true_eq] at h2
  unfold InP qAt pAt
  rw [Int.toNat_natCast]
  exact ⟨⟨by omega, by omega, by omega⟩, by omega, h2.2.1, h2.1⟩
theorem plL_small (l : List Int) : ∀ (n : Nat), n ≤ 4611686018427387903 → SmallM (plL l n)
  | 0, _ => ⟨fun k => by show 0 ≤ (none : Option Int).getD 0; simp, fun k => by show (none : Option Int).getD 0 ≤ _; simp⟩
  | n + 1, h => by
    have ih := plL_small l n (by omega)
    refine ⟨fun k => ?_, fun k => ?_⟩
    · show 0 ≤ (lookL (setL (plL l n) (l.getD n 0) (n : Int)) k).getD 0
      rw [lookL_setL]
      split
      · simp
      · exact ih.low k
    · show (lookL (setL (plL l n) (l.getD n 0) (n : Int)) k).getD 0 ≤ _
      rw [lookL_setL]
      split
      · simp only [Option.getD_some]; omega
      · exact ih.high k
end Go.Proofs.Ytaoflcmjmhfblaa.R
/- rank.Order. -/
namespace Go.Proofs.Ytaoflcmjmhfblaa.R
open Go.RowKit Go.Proofs.YtaoflcmjmhfblaaW.PrintWords Go.Proofs.YtaoflcmjmhfblaaW.PrintLast Go.Proofs.YtaoflcmjmhfblaaW.PrintMore Go.Proofs.Ytaoflcmjmhfblaa.H Go.Shelf
set_option linter.unusedVariables false
set_option linter.unusedSimpArgs false
def unfit (p : PoolV) : Bool := !withinI p.weight 100
set_option maxHeartbeats 1000000 in
theorem unfit_pred (w : World) : PredR Try.prog 120 #[] encPool unfit (fun _ => True) w := by
  rintro W p - -
  unfold unfit encPool PoolV.cells
  have KW := Lib.hid (fun W => within_calls p.weight 100 (by decide) W)
  obtain ⟨b, hb⟩ : ∃ b, withinI p.weight 100 = b := ⟨_, rfl⟩
  rw [hb] at KW ⊢
  clear hb
  simp only [List.push_toArray, List.append_toArray, List.cons_append, List.nil_append]
  go_enter Try.func120, Try.ntmps120
  go_wp2_with (first | (go_at_call 121; refine (KW.out _).mono ?_; rintro e w' ⟨rfl, rfl⟩))
  go_ret
  exact ⟨rfl, below_alloc (Below.refl _ _) _⟩
theorem OrdOn.nil (l : List Int) : OrdOn (firstK []) l := ordOn_first (fun f h => by simp at h)
set_option maxHeartbeats 1000000 in
/-- sorted, by a list of orders that lies in a block. -/
theorem by_first {fs : List OrdF} {S : Int → Prop} {A : Option Addr} {l : List Int} {w : World} (B c cB : Nat) (hcells : ∀ j f, fs[j]? = some f → w.cell? ⟨B, j, none⟩ = some (.func (.func f.g) #[] f.cap))
    (heg : ∀ f ∈ fs, ∀ args w, (callFunc f.g args).run Try.prog w = .ok (.enter f.g args) w) (hord : ∀ f ∈ fs, OrdW Try.prog f.g f.cap f.cf S w) (hlen : fs.length < 1000)
    (hcf : ∀ f ∈ fs, OrdOn f.cf l) (hS : ∀ x ∈ l, S x) (hC : Kd.C (Kd.int .i64) w A l.length l) (hl : l.length * 8 ≤ 140737488355328) :
    Calls Try.prog 127 #[.slice A l.length c, .func (.func 161) #[] #[.pointer (some ⟨w.heap.size, 0, none⟩)]] (w.alloc (.cells #[.slice (some ⟨B, 0, none⟩) fs.length cB] 217 (0, 0)))
      fun e w' => ∃ A' c' L, e = .returned (.slice A' l.length c') ∧ SortedL (firstK (fs.map (·.cf))) l L ∧ l.length ≤ c' ∧ Kd.C (Kd.int .i64) w' A' l.length L ∧ Below w.heap.size w w' := by
  have hb : Below w.heap.size w (w.alloc (.cells #[.slice (some ⟨B, 0, none⟩) fs.length cB] 217 (0, 0))) := below_alloc (Below.refl _ _) _
  have hW : OrdsW Try.prog fs S w.heap.size B cB (w.alloc (.cells #[.slice (some ⟨B, 0, none⟩) fs.length cB] 217 (0, 0))) :=
    ⟨(blk_cell (heap_alloc_new _ _) 0).trans rfl, fun j f hf => (hb.cell (World.block_lt_of_cell? _ _ (hcells j f hf))).trans (hcells j f hf), heg, fun f hf => (hord f hf).later hb, hlen⟩
  have hon : OrdOn (firstC fs) l := by
    have e : firstC fs = firstK (fs.map (·.cf)) := by funext i k; exact firstC_eq fs i k
    rw [e]
    refine ordOn_first (fun f hf => ?_)
    obtain ⟨g, hg, rfl⟩ := List.mem_map.1 hf
    exact hcf g hg
  refine (sorted_calls (enters_of Try.func161 (by kernel_rfl) rfl) (first_ord hW) hS hon (Kd.C_below hC hb) hl).mono ?_
  rintro e w' ⟨A', c', L, rfl, h1, h2, h3, h4⟩
  refine ⟨A', c', L, rfl, ?_, h2, h3, below_step hb h4⟩
  have e : firstC fs = firstK (fs.map (·.cf)) := by funext i k; exact firstC_eq fs i k
  rw [← e]
  exact h1
end Go.Proofs.Ytaoflcmjmhfblaa.R
/- rank.Order: the walk. -/
namespace Go.Proofs.Ytaoflcmjmhfblaa.R
open Go.RowKit Go.Proofs.YtaoflcmjmhfblaaW.PrintWords Go.Proofs.YtaoflcmjmhfblaaW.PrintLast Go.Proofs.YtaoflcmjmhfblaaW.PrintMore Go.Proofs.Ytaoflcmjmhfblaa.H Go.Shelf
set_option linter.unusedVariables false
set_option linter.unusedSimpArgs false
def badR (ps : List PoolV) (qs : List QuoteV) (l : List Int) : Bool := ps.any unfit || l.any (dear qs)
/-- What Order answers. -/
def OrderS (st : Int) (ps : List PoolV) (qs : List QuoteV) (l L : List Int) : Prop :=
  (badR ps qs l = true → L = []) ∧ (badR ps qs l = false →
    (st = 1 → SortedL (firstK [prioC ps]) l L) ∧
    (st = 2 → SortedL (firstK [priceC ps qs]) l L) ∧
    (st = 3 → SortedL (firstK [scoreC qs, priceC ps qs]) l L) ∧
    (st = 4 → ∃ L1 L2, SortedL (firstK [priceC ps qs]) l L1 ∧ SortedL (firstK [scoreC qs, priceC ps qs]) l L2 ∧ SortedL (firstK [sumC (plL L1 L1.length) (plL L2 L2.length)]) l L) ∧
    (st ≠ 1 → st ≠ 2 → st ≠ 3 → st ≠ 4 → L = []))
theorem gen_wl {P : Program} {ops : Array Oper} {rest : List Oper} {Q : Exit → Act → World → Prop} {a : Act} {w : World} (F : World → Prop) (hF : F w) (h : ∀ W, F W → wpList P ops Q rest a W) : wpList P ops Q rest a w := h w hF
theorem c_none (w : World) : Kd.C (Kd.int .i64) w none ([] : List Int).length [] := ⟨rfl, by decide, fun h => absurd h (by decide)⟩
theorem SortedL.len {cf : Int → Int → Int} {l L : List Int} (h : SortedL cf l L) : L.length = l.length := h.1.length_eq
/-- An order that may be used to sort l. -/
structure OkF (l : List Int) (S : Int → Prop) (W : World) (f : OrdF) : Prop where
  eg : ∀ args w, (callFunc f.g args).run Try.prog w = .ok (.enter f.g args) w
  ord : OrdW Try.prog f.g f.cap f.cf S W
  on : OrdOn f.cf l
theorem ok1 {l : List Int} {S : Int → Prop} {W : World} {f : OrdF} (h : OkF l S W f) : ∀ x ∈ [f], OkF l S W x := fun x hx => by
  rw [List.mem_singleton] at hx
  rw [hx]
  exact h
theorem ok2 {l : List Int} {S : Int → Prop} {W : World} {f g : OrdF} (h : OkF l S W f) (k : OkF l S W g) : ∀ x ∈ [f, g], OkF l S W x := fun x hx => by
  rcases List.mem_cons.1 hx with e | e
  · rw [e]; exact h
  · exact ok1 k x e
section
variable {g4 g5 : Nat} {Ap Aq : Option Addr} {cp cq : Nat} {ps : List PoolV} {qs : List QuoteV} {w : World} {l : List Int}
theorem okPrio (h : MemR w g4 g5 Ap Aq cp cq ps qs) : OkF l (InP ps qs) w ⟨129, #[.pointer (some ⟨g4, 0, none⟩)], prioC ps⟩ :=
  ⟨enters_of Try.func129 (by kernel_rfl) rfl, prio_ord h, ordOn_prio ps l⟩
theorem okScore (h : MemR w g4 g5 Ap Aq cp cq ps qs) : OkF l (InP ps qs) w ⟨125, #[.pointer (some ⟨g5, 0, none⟩)], scoreC qs⟩ :=
  ⟨enters_of Try.func125 (by kernel_rfl) rfl, score_ord h, ordOn_score qs l⟩
theorem okPrice (h : MemR w g4 g5 Ap Aq cp cq ps qs) (k : OrdOn (priceC ps qs) l) : OkF l (InP ps qs) w ⟨124, #[.pointer (some ⟨g4, 0, none⟩), .pointer (some ⟨g5, 0, none⟩)], priceC ps qs⟩ :=
  ⟨enters_of Try.func124 (by kernel_rfl) rfl, price_ord h, k⟩
theorem okSum {m1 m2 : List (Int × Int)} {g1 g2 B1 B2 : Nat} (S : Int → Prop) (h1 : w.cell? ⟨g1, 0, none⟩ = some (.map (some B1))) (h2 : w.cell? ⟨g2, 0, none⟩ = some (.map (some B2))) (hm1 : MapR (Value.int .i64) (Value.int .i64) w B1 m1) (hm2 : MapR (Value.int .i64) (Value.int .i64) w B2 m2) (s1 : SmallM m1) (s2 : SmallM m2) :
    OkF l S w ⟨131, #[.pointer (some ⟨g1, 0, none⟩), .pointer (some ⟨g2, 0, none⟩)], sumC m1 m2⟩ :=
  ⟨enters_of Try.func131 (by kernel_rfl) rfl, sum_ord h1 h2 hm1 hm2 s1 s2 S, ordOn_sum m1 m2 l⟩
end
theorem placesN {A : Option Addr} {n : Nat} (c : Nat) {l : List Int} {w : World} (hn : l.length = n) (h : Kd.C (Kd.int .i64) w A n l) :
    Calls Try.prog 130 #[.slice A n c] w fun e w' => ∃ B, e = .returned (.map (some B)) ∧ MapR (Value.int .i64) (Value.int .i64) w' B (plL l l.length) ∧ Below w.heap.size w w' := by
  subst hn
  exact (places_calls A c l w h).mono fun e w' h => by obtain ⟨B, e1, e2, _, e3⟩ := h; exact ⟨B, e1, e2, e3⟩
theorem new_two {w9T : TypeId} (w : World) : ((w.alloc (.cells #[.map none] w9T (0, 0))).alloc (.cells #[.map none] w9T (0, 0))).heap[w.heap.size + 1]? = some (.cells #[.map none] w9T (0, 0)) := by
  have h := heap_alloc_new (w.alloc (.cells #[.map none] w9T (0, 0))) (.cells #[.map none] w9T (0, 0))
  rw [World.size_alloc] at h
  exact h
theorem new_one {w9T : TypeId} (w : World) : ((w.alloc (.cells #[.map none] w9T (0, 0))).alloc (.cells #[.map none] w9T (0, 0))).heap[w.heap.size]? = some (.cells #[.map none] w9T (0, 0)) :=
  (Below.heap_alloc _ _ _ (by simp)).trans (heap_alloc_new _ _)
/-- by_first, the length and the slice of orders told by numbers. -/
theorem by_firstN {fs : List OrdF} {S : Int → Prop} {A : Option Addr} {l : List Int} {n k : Nat} {w : World} (hn : l.length = n) (hk : fs.length = k) (B c cB : Nat) {T : TypeId} (hX : w.heap[B]? = some (.cells (fs.map (fun f => Value.func (.func f.g) #[] f.cap)).toArray T (0, 0)))
    (hok : ∀ f ∈ fs, OkF l S w f) (hlen : k < 1000) (hS : ∀ x ∈ l, S x) (hC : Kd.C (Kd.int .i64) w A n l) (hl : l.length * 8 ≤ 140737488355328) :
    Calls Try.prog 127 #[.slice A n c, .func (.func 161) #[] #[.pointer (some ⟨w.heap.size, 0, none⟩)]] (w.alloc (.cells #[.slice (some ⟨B, 0, none⟩) k cB] 217 (0, 0)))
      fun e w' => ∃ A' c' L, e = .returned (.slice A' n c') ∧ SortedL (firstK (fs.map (·.cf))) l L ∧ n ≤ c' ∧ Kd.C (Kd.int .i64) w' A' n L ∧ Below w.heap.size w w' := by
  subst hn
  subst hk
  refine by_first B c cB (fun j f hj => ?_) (fun f hf => (hok f hf).eg) (fun f hf => (hok f hf).ord) hlen (fun f hf => (hok f hf).on) hS hC hl
  refine (blk_cell hX j).trans ?_
  rw [List.getElem?_toArray, List.getElem?_map, hj]
  rfl
theorem fin {A : Option Addr} {c n : Nat} {L l : List Int} {w0 w' : World} {st : Int} {ps : List PoolV} {qs : List QuoteV} (hn : L.length = n) (hc : n ≤ c) (hC : Kd.C (Kd.int .i64) w' A n L) (hb : Below w0.heap.size w0 w') (hS : OrderS st ps qs l L) :
    ∃ A' c' L', Ending.returned (.slice A n c) = .returned (.slice A' L'.length c') ∧ L'.length ≤ c' ∧ Kd.C (Kd.int .i64) w' A' L'.length L' ∧ Below w0.heap.size w0 w' ∧ OrderS st ps qs l L' := by
  subst hn
  exact ⟨A, c, L, rfl, hc, hC, hb, hS⟩
set_option maxHeartbeats 4000000 in
set_option maxRecDepth 100000 in
theorem order_calls (cs : Array Value) (Ap Aq : Option Addr) (cp cq : Nat) (st sp : Int) (ps : List PoolV) (qs : List QuoteV) (spot : Bool) (now : Int) (w : World)
    (hcf : CfF cs Ap ps.length cp st sp) (hps : Kd.C kPool w Ap ps.length ps) (hqs : Kd.C kQuote w Aq qs.length qs) (hsz : ps.length * 40 ≤ 140737488355328) :
    Calls Try.prog 49 #[.agg cs, .slice Aq qs.length cq, .bool spot, .int .u64 now] w fun e w' => ∃ A' c' L, e = .returned (.slice A' L.length c') ∧ L.length ≤ c' ∧ Kd.C (Kd.int .i64) w' A' L.length L ∧ Below w.heap.size w w' ∧ OrderS st ps qs (opensL ps qs spot now) L := by
  obtain ⟨l, hl⟩ : ∃ l, opensL ps qs spot now = l := ⟨_, rfl⟩
  have hin : ∀ x ∈ l, InP ps qs x := fun x hx => by rw [← hl] at hx; exact (opens_in hx).1
  have hpr : ∀ x ∈ l, 1 ≤ (qAt qs x).price := fun x hx => by rw [← hl] at hx; exact (opens_in hx).2.1
  have hll : l.length * 8 ≤ 140737488355328 := by
    rw [← hl]
    have := thoseL_len (openP spot now) ps qs (min ps.length qs.length)
    unfold opensL
    omega
  have KO := Lib.hid (show ∀ W, Below w.heap.size w W → Calls Try.prog 118 #[.agg cs, .slice Aq qs.length cq, .bool spot, .int .u64 now] W fun e w' => ∃ A' c', e = .returned (.slice A' l.length c') ∧ l.length ≤ c' ∧ Kd.C (Kd.int .i64) w' A' l.length l ∧ Below W.heap.size W w' from fun W hW => by
    refine (opens_calls cs Ap Aq cp cq st sp ps qs spot now W hcf (Kd.C_below hps hW) (Kd.C_below hqs hW) hsz).mono ?_
    rintro e w' ⟨v, rfl, hr, hb⟩
    rw [hl] at hr
    obtain ⟨A', c', rfl, hc, hC⟩ := Kd.R_reads hr
    exact ⟨A', c', rfl, hc, hC, hb⟩)
  rw [hl]
  have HM := Lib.hid (show ∀ W, W.heap[w.heap.size]? = some (.cells cs 41 (0, 0)) → W.cell? ⟨w.heap.size + 1, 0, none⟩ = some (.slice Aq qs.length cq) → Below w.heap.size w W → MemR W w.heap.size (w.heap.size + 1) Ap Aq cp cq ps qs from fun W h0 h1 hb =>
    ⟨(blk_cell h0 0).trans hcf.c0, h1, Kd.C_below hps hb, Kd.C_below hqs hb⟩)
  have KP := Lib.hid (show ∀ W, Below w.heap.size w W → Calls Try.prog 119 #[.slice Ap ps.length cp, .func (.func 120) #[] #[]] W fun e w' => e = .returned (.bool (ps.any unfit)) ∧ Below W.heap.size W w' from fun W hW =>
    hasPool 120 #[] (enters_of Try.func120 (by kernel_rfl) rfl) unfit (fun _ => True) Ap cp ps W (Kd.C_below hps hW) (fun _ _ => trivial) (unfit_pred W))
  have KD := Lib.hid (show ∀ W A c, MemR W w.heap.size (w.heap.size + 1) Ap Aq cp cq ps qs → Kd.C (Kd.int .i64) W A l.length l → Calls Try.prog 122 #[.slice A l.length c, .func (.func 123) #[] #[.pointer (some ⟨w.heap.size + 1, 0, none⟩)]] W fun e w' => e = .returned (.bool (l.any (dear qs))) ∧ Below W.heap.size W w' from fun W A c hM hC =>
    hasInt 123 _ (enters_of Try.func123 (by kernel_rfl) rfl) (dear qs) (InP ps qs) A c l W hC hin (dear_pred hM))
  have HFIT := Lib.hid (show badR ps qs l = false → OrdOn (priceC ps qs) l from fun hb => by
    refine ordOn_price (fun x hx => ?_)
    unfold badR at hb
    rw [Bool.or_eq_false_iff] at hb
    obtain ⟨hb1, hb2⟩ := hb
    rw [List.any_eq_false] at hb1 hb2
    have hi := hin x hx
    have h1 := hb1 (pAt ps x) (by
      unfold pAt
      rw [List.getD_eq_getElem?_getD, List.getElem?_eq_getElem (by have := hi.1; have := hi.2.1; omega)]
      exact List.getElem_mem _)
    have h2 := hb2 x hx
    unfold unfit withinI at h1
    unfold dear at h2
    have h3 := hpr x hx
    simp at h1 h2
    exact ⟨h1.1, h1.2, h3, h2⟩)
  have HBAD := Lib.hid (show badR ps qs l = (ps.any unfit || l.any (dear qs)) from rfl)
  have HIN := Lib.hid hin
  have HLL := Lib.hid hll
  have HCF := Lib.hid hcf
  have HSZ := Lib.hid hsz
  obtain ⟨n, hn⟩ : ∃ n, l.length = n := ⟨_, rfl⟩
  obtain ⟨np, hnp⟩ : ∃ n, ps.length = n := ⟨_, rfl⟩
  obtain ⟨nq, hnq⟩ : ∃ n, qs.length = n := ⟨_, rfl⟩
  obtain ⟨b1, hb1⟩ : ∃ b, ps.any unfit = b := ⟨_, rfl⟩
  obtain ⟨b2, hb2⟩ : ∃ b, l.any (dear qs) = b := ⟨_, rfl⟩
  rw [hn, hnq] at KO
  rw [hnp, hb1] at KP
  rw [hn, hb2] at KD
  rw [hb1, hb2] at HBAD
  rw [hnq] at HM
  rw [hnp] at HCF
  rw [hnq]
  have HN := Lib.hid hn
  clear hl hin hpr hll hcf hps hqs hsz hn hnp hnq hb1 hb2
  go_enter Try.func49, Try.ntmps49
  go_upto_region 1 with fail
  refine gen_w (fun W => W.heap[w.heap.size]? = some (.cells cs 41 (0, 0)) ∧ W.cell? ⟨w.heap.size + 1, 0, none⟩ = some (.slice Aq nq cq) ∧ Below w.heap.size w W) ⟨?_, ?_, below_alloc (below_alloc (Below.refl _ _) _) _⟩ ?_
  · exact (Below.heap_alloc _ _ _ (by simp)).trans (heap_alloc_new _ _)
  · have h3 := heap_alloc_new (w.alloc (.cells cs 41 (0, 0))) (.cells #[.slice Aq nq cq] 97 (0, 0))
    rw [World.size_alloc] at h3
    exact (blk_cell h3 0).trans rfl
  rintro W ⟨h0, h1, hB⟩
  have H0 := Lib.hid h0
  have HB := Lib.hid hB
  clear h0 hB
  go_upto_region 2 with (first
    | ((with_reducible refine gate_load 41 rfl ?_); refine wpList_load_row rfl 41 _ rfl _ rfl 41 _ _ _ H0.out Try.underlying41 rfl (by rw [HCF.out.size]; kernel_rfl) ?_)
    | (go_at_call 118; refine (KO.out _ HB.out).mono ?_; rintro e w1 ⟨A1, c1, rfl, hc1, hC1, hb⟩; have HB1 := Lib.hid (below_step HB.out hb); have H01 := Lib.hid (blk_call hb H0.out); have h11 := (hb.cell (World.block_lt_of_cell? _ _ h1)).trans h1; have HC1 := Lib.hid hC1; have HCC := Lib.hid hc1; clear hb hC1 hc1))
  clear h1 KO
  have hM1 := HM.out w1 H01.out h11 HB1.out
  have HM1 := Lib.hid hM1
  have g0 := (blk_cell H01.out 0).trans HCF.out.c0
  have g1 := (blk_cell H01.out 1).trans HCF.out.c1
  clear hM1
  cases b1
  · cases b2
    · have HPR := Lib.hid (HFIT.out HBAD.out)
      go_upto_region 7 with (first
      | (go_at_call 119; refine (KP.out _ HB1.out).mono ?_; rintro e w2 ⟨rfl, hb⟩; have HB2 := Lib.hid (below_step HB1.out hb); have H02 := Lib.hid (blk_call hb H01.out); have h12 := (hb.cell (World.block_lt_of_cell? _ _ h11)).trans h11; have HC2 := Lib.hid (Kd.C_below HC1.out hb); clear hb)
      | (go_at_call 122; refine (KD.out _ _ _ (HM.out _ H02.out h12 HB2.out) HC2.out).mono ?_; rintro e w3 ⟨rfl, hb⟩; have HB3 := Lib.hid (below_step HB2.out hb); have H03 := Lib.hid (blk_call hb H02.out); have h13 := (hb.cell (World.block_lt_of_cell? _ _ h12)).trans h12; have HC3 := Lib.hid (Kd.C_below HC2.out hb); have k0 := (blk_cell H03.out 1).trans HCF.out.c1; clear hb))
      clear g0 g1 h11 h12 KP KD
      by_cases e1 : st = 1
      · subst e1
        go_wp2_with (first
          | (refine Go.Great.wpList_buildSliceTo rfl 217 186 1 _ rfl w3.heap.size rfl (some 35) rfl Try.underlying217 #[.func (.func 129) #[] #[.pointer (some ⟨w.heap.size, 0, none⟩)]] (by kernel_rfl) ?_; refine gen_wl (fun W => W.heap[w3.heap.size]? = some (.cells #[.func (.func 129) #[] #[.pointer (some ⟨w.heap.size, 0, none⟩)]] 186 (0, 0)) ∧ Below w3.heap.size w3 W) ⟨heap_alloc_new _ _, below_alloc (Below.refl _ _) _⟩ ?_; rintro w4 ⟨hx, hb⟩; have HX4 := Lib.hid hx; have HB4 := Lib.hid (below_step HB3.out hb); have H04 := Lib.hid (blk_call hb H03.out); have h14 := (hb.cell (World.block_lt_of_cell? _ _ h13)).trans h13; have HC4 := Lib.hid (Kd.C_below HC3.out hb); clear hx hb)
          | (go_at_call 128; refine (first_calls _ _ _ _).mono ?_; rintro e w' ⟨rfl, rfl⟩)
          | (go_at_call 127; refine (by_firstN (fs := [⟨129, #[.pointer (some ⟨w.heap.size, 0, none⟩)], prioC ps⟩]) HN.out rfl _ _ _ HX4.out (ok1 (okPrio (HM.out _ H04.out h14 HB4.out))) (show (1 : Nat) < 1000 by decide) HIN.out HC4.out HLL.out).mono ?_; rintro e w5 ⟨A5, c5, L, rfl, hL, hc, hC, hb⟩; have HS5 := Lib.hid hL; have HN5 := Lib.hid hc; have HD5 := Lib.hid hC; have HB5 := Lib.hid (below_step HB4.out hb); have H05 := Lib.hid (blk_call hb H04.out); have h15 := (hb.cell (World.block_lt_of_cell? _ _ h14)).trans h14; have HC5 := Lib.hid (Kd.C_below HC4.out hb); clear hL hc hC hb))
        go_ret
        refine fin ((HS5.out.len).trans HN.out) HN5.out HD5.out HB5.out ⟨fun h => ?_, fun _ => ?_⟩
        · rw [HBAD.out] at h; simp at h
        · refine ⟨fun _ => HS5.out, fun h => absurd h (by decide), fun h => absurd h (by decide), fun h => absurd h (by decide), fun h => absurd rfl h⟩
      have n1 : (st == 1) = false := by simpa using e1
      by_cases e2 : st = 2
      · subst e2
        go_wp2_with (first
          | (refine Go.Great.wpList_buildSliceTo rfl 217 186 1 _ rfl w3.heap.size rfl (some 42) rfl Try.underlying217 #[.func (.func 124) #[] #[.pointer (some ⟨w.heap.size, 0, none⟩), .pointer (some ⟨w.heap.size + 1, 0, none⟩)]] (by kernel_rfl) ?_; refine gen_wl (fun W => W.heap[w3.heap.size]? = some (.cells #[.func (.func 124) #[] #[.pointer (some ⟨w.heap.size, 0, none⟩), .pointer (some ⟨w.heap.size + 1, 0, none⟩)]] 186 (0, 0)) ∧ Below w3.heap.size w3 W) ⟨heap_alloc_new _ _, below_alloc (Below.refl _ _) _⟩ ?_; rintro w4 ⟨hx, hb⟩; have HX4 := Lib.hid hx; have HB4 := Lib.hid (below_step HB3.out hb); have H04 := Lib.hid (blk_call hb H03.out); have h14 := (hb.cell (World.block_lt_of_cell? _ _ h13)).trans h13; have HC4 := Lib.hid (Kd.C_below HC3.out hb); clear hx hb)
          | (go_at_call 128; refine (first_calls _ _ _ _).mono ?_; rintro e w' ⟨rfl, rfl⟩)
          | (go_at_call 127; refine (by_firstN (fs := [⟨124, #[.pointer (some ⟨w.heap.size, 0, none⟩), .pointer (some ⟨w.heap.size + 1, 0, none⟩)], priceC ps qs⟩]) HN.out rfl _ _ _ HX4.out (ok1 (okPrice (HM.out _ H04.out h14 HB4.out) HPR.out)) (show (1 : Nat) < 1000 by decide) HIN.out HC4.out HLL.out).mono ?_; rintro e w5 ⟨A5, c5, L, rfl, hL, hc, hC, hb⟩; have HS5 := Lib.hid hL; have HN5 := Lib.hid hc; have HD5 := Lib.hid hC; have HB5 := Lib.hid (below_step HB4.out hb); have H05 := Lib.hid (blk_call hb H04.out); have h15 := (hb.cell (World.block_lt_of_cell? _ _ h14)).trans h14; have HC5 := Lib.hid (Kd.C_below HC4.out hb); clear hL hc hC hb))
        go_ret
        refine fin ((HS5.out.len).trans HN.out) HN5.out HD5.out HB5.out ⟨fun h => ?_, fun _ => ?_⟩
        · rw [HBAD.out] at h; simp at h
        · refine ⟨fun h => absurd h (by decide), fun _ => HS5.out, fun h => absurd h (by decide), fun h => absurd h (by decide), fun _ h => absurd rfl h⟩
      have n2 : (st == 2) = false := by simpa using e2
      by_cases e3 : st = 3
      · subst e3
        go_wp2_with (first
          | (refine Go.Great.wpList_buildSliceTo rfl 217 186 2 _ rfl w3.heap.size rfl (some 50) rfl Try.underlying217 #[.func (.func 125) #[] #[.pointer (some ⟨w.heap.size + 1, 0, none⟩)], .func (.func 124) #[] #[.pointer (some ⟨w.heap.size, 0, none⟩), .pointer (some ⟨w.heap.size + 1, 0, none⟩)]] (by kernel_rfl) ?_; refine gen_wl (fun W => W.heap[w3.heap.size]? = some (.cells #[.func (.func 125) #[] #[.pointer (some ⟨w.heap.size + 1, 0, none⟩)], .func (.func 124) #[] #[.pointer (some ⟨w.heap.size, 0, none⟩), .pointer (some ⟨w.heap.size + 1, 0, none⟩)]] 186 (0, 0)) ∧ Below w3.heap.size w3 W) ⟨heap_alloc_new _ _, below_alloc (Below.refl _ _) _⟩ ?_; rintro w4 ⟨hx, hb⟩; have HX4 := Lib.hid hx; have HB4 := Lib.hid (below_step HB3.out hb); have H04 := Lib.hid (blk_call hb H03.out); have h14 := (hb.cell (World.block_lt_of_cell? _ _ h13)).trans h13; have HC4 := Lib.hid (Kd.C_below HC3.out hb); clear hx hb)
          | (go_at_call 128; refine (first_calls _ _ _ _).mono ?_; rintro e w' ⟨rfl, rfl⟩)
          | (go_at_call 127; refine (by_firstN (fs := [⟨125, #[.pointer (some ⟨w.heap.size + 1, 0, none⟩)], scoreC qs⟩, ⟨124, #[.pointer (some ⟨w.heap.size, 0, none⟩), .pointer (some ⟨w.heap.size + 1, 0, none⟩)], priceC ps qs⟩]) HN.out rfl _ _ _ HX4.out (ok2 (okScore (HM.out _ H04.out h14 HB4.out)) (okPrice (HM.out _ H04.out h14 HB4.out) HPR.out)) (show (2 : Nat) < 1000 by decide) HIN.out HC4.out HLL.out).mono ?_; rintro e w5 ⟨A5, c5, L, rfl, hL, hc, hC, hb⟩; have HS5 := Lib.hid hL; have HN5 := Lib.hid hc; have HD5 := Lib.hid hC; have HB5 := Lib.hid (below_step HB4.out hb); have H05 := Lib.hid (blk_call hb H04.out); have h15 := (hb.cell (World.block_lt_of_cell? _ _ h14)).trans h14; have HC5 := Lib.hid (Kd.C_below HC4.out hb); clear hL hc hC hb))
        go_ret
        refine fin ((HS5.out.len).trans HN.out) HN5.out HD5.out HB5.out ⟨fun h => ?_, fun _ => ?_⟩
        · rw [HBAD.out] at h; simp at h
        · refine ⟨fun h => absurd h (by decide), fun h => absurd h (by decide), fun _ => HS5.out, fun h => absurd h (by decide), fun _ _ h => absurd rfl h⟩
      have n3 : (st == 3) = false := by simpa using e3
      by_cases e4 : st = 4
      · subst e4
        go_upto_region 15 with (first
          | ((with_reducible refine gate_storeT 188 rfl ?_); refine bx_store1 rfl 188 (.tmp 13) (.tmp 67) rfl (w9.heap.size + 1) 0 rfl (.map (some B2)) rfl 188 #[.map none] HGB.out (by kernel_rfl) (by decide) rfl #[.map (some B2)] rfl HBA.out (by omega) ?_; intro w10 hgb hsa hoa hb; have HG2 := Lib.hid hgb; have HG1 := Lib.hid ((hoa w9.heap.size (by omega)).trans HGA.out); have HB10 := Lib.hid (below_step HB9.out hb); have H010 := Lib.hid (blk_call hb H09.out); have h110 := (hb.cell (World.block_lt_of_cell? _ _ h19)).trans h19; have HC10 := Lib.hid (Kd.C_below HC9.out hb); have HA10 := Lib.hid (HA9.out.later hb); have HE10 := Lib.hid (HM9.out.later hb); clear hgb hsa hoa hb h19)
          | ((with_reducible refine gate_storeT 188 rfl ?_); refine bx_store1 rfl 188 (.tmp 12) (.tmp 60) rfl w9.heap.size 0 rfl (.map (some B1)) rfl 188 #[.map none] (new_one w9) (by kernel_rfl) (by decide) rfl #[.map (some B1)] rfl (below_alloc (below_alloc (Below.refl w9.heap.size w9) _) _) (Nat.le_refl _) ?_; intro wa hga hsa hoa hba; have hgb := (hoa (w9.heap.size + 1) (by omega)).trans (new_two w9); have HGA := Lib.hid hga; have HGB := Lib.hid hgb; have HBA := Lib.hid hba; clear hga hsa hoa hba hgb)
          | (go_at_call 130; refine (placesN _ (HS8.out.len.trans HN.out) HD8.out).mono ?_; rintro e w9 ⟨B2, rfl, hm, hb⟩; have HM9 := Lib.hid hm; have HB9 := Lib.hid (below_step HB8.out hb); have H09 := Lib.hid (blk_call hb H08.out); have h19 := (hb.cell (World.block_lt_of_cell? _ _ h18)).trans h18; have HC9 := Lib.hid (Kd.C_below HC8.out hb); have HA9 := Lib.hid (HA8.out.later hb); clear hm hb h18)
          | (go_at_call 127; refine (by_firstN (fs := [⟨125, #[.pointer (some ⟨w.heap.size + 1, 0, none⟩)], scoreC qs⟩, ⟨124, #[.pointer (some ⟨w.heap.size, 0, none⟩), .pointer (some ⟨w.heap.size + 1, 0, none⟩)], priceC ps qs⟩]) HN.out rfl _ _ _ HX7.out (ok2 (okScore (HM.out _ H07.out h17 HB7.out)) (okPrice (HM.out _ H07.out h17 HB7.out) HPR.out)) (show (2 : Nat) < 1000 by decide) HIN.out HC7.out HLL.out).mono ?_; rintro e w8 ⟨A8, c8, L2, rfl, hL, hc, hC, hb⟩; have HS8 := Lib.hid hL; have HN8 := Lib.hid hc; have HD8 := Lib.hid hC; have HB8 := Lib.hid (below_step HB7.out hb); have H08 := Lib.hid (blk_call hb H07.out); have h18 := (hb.cell (World.block_lt_of_cell? _ _ h17)).trans h17; have HC8 := Lib.hid (Kd.C_below HC7.out hb); have HA8 := Lib.hid (HA7.out.later hb); clear hL hc hC hb h17)
          | (refine Go.Great.wpList_buildSliceTo rfl 217 186 2 _ rfl w6.heap.size rfl (some 64) rfl Try.underlying217 #[.func (.func 125) #[] #[.pointer (some ⟨w.heap.size + 1, 0, none⟩)], .func (.func 124) #[] #[.pointer (some ⟨w.heap.size, 0, none⟩), .pointer (some ⟨w.heap.size + 1, 0, none⟩)]] (by kernel_rfl) ?_; refine gen_wl (fun W => W.heap[w6.heap.size]? = some (.cells #[.func (.func 125) #[] #[.pointer (some ⟨w.heap.size + 1, 0, none⟩)], .func (.func 124) #[] #[.pointer (some ⟨w.heap.size, 0, none⟩), .pointer (some ⟨w.heap.size + 1, 0, none⟩)]] 186 (0, 0)) ∧ Below w6.heap.size w6 W) ⟨heap_alloc_new _ _, below_alloc (Below.refl _ _) _⟩ ?_; rintro w7 ⟨hx, hb⟩; have HX7 := Lib.hid hx; have HB7 := Lib.hid (below_step HB6.out hb); have H07 := Lib.hid (blk_call hb H06.out); have h17 := (hb.cell (World.block_lt_of_cell? _ _ h16)).trans h16; have HC7 := Lib.hid (Kd.C_below HC6.out hb); have HA7 := Lib.hid (HM6.out.later hb); clear hx hb h16)
          | (go_at_call 130; refine (placesN _ (HS5.out.len.trans HN.out) HD5.out).mono ?_; rintro e w6 ⟨B1, rfl, hm, hb⟩; have HM6 := Lib.hid hm; have HB6 := Lib.hid (below_step HB5.out hb); have H06 := Lib.hid (blk_call hb H05.out); have h16 := (hb.cell (World.block_lt_of_cell? _ _ h15)).trans h15; have HC6 := Lib.hid (Kd.C_below HC5.out hb); clear hm hb h15)
          | (go_at_call 127; refine (by_firstN (fs := [⟨124, #[.pointer (some ⟨w.heap.size, 0, none⟩), .pointer (some ⟨w.heap.size + 1, 0, none⟩)], priceC ps qs⟩]) HN.out rfl _ _ _ HX4.out (ok1 (okPrice (HM.out _ H04.out h14 HB4.out) HPR.out)) (show (1 : Nat) < 1000 by decide) HIN.out HC4.out HLL.out).mono ?_; rintro e w5 ⟨A5, c5, L1, rfl, hL, hc, hC, hb⟩; have HS5 := Lib.hid hL; have HN5 := Lib.hid hc; have HD5 := Lib.hid hC; have HB5 := Lib.hid (below_step HB4.out hb); have H05 := Lib.hid (blk_call hb H04.out); have h15 := (hb.cell (World.block_lt_of_cell? _ _ h14)).trans h14; have HC5 := Lib.hid (Kd.C_below HC4.out hb); clear hL hc hC hb h14)
          | (go_at_call 128; refine (first_calls _ _ _ _).mono ?_; rintro e w' ⟨rfl, rfl⟩)
          | (refine Go.Great.wpList_buildSliceTo rfl 217 186 1 _ rfl w3.heap.size rfl (some 57) rfl Try.underlying217 #[.func (.func 124) #[] #[.pointer (some ⟨w.heap.size, 0, none⟩), .pointer (some ⟨w.heap.size + 1, 0, none⟩)]] (by kernel_rfl) ?_; refine gen_wl (fun W => W.heap[w3.heap.size]? = some (.cells #[.func (.func 124) #[] #[.pointer (some ⟨w.heap.size, 0, none⟩), .pointer (some ⟨w.heap.size + 1, 0, none⟩)]] 186 (0, 0)) ∧ Below w3.heap.size w3 W) ⟨heap_alloc_new _ _, below_alloc (Below.refl _ _) _⟩ ?_; rintro w4 ⟨hx, hb⟩; have HX4 := Lib.hid hx; have HB4 := Lib.hid (below_step HB3.out hb); have H04 := Lib.hid (blk_call hb H03.out); have h14 := (hb.cell (World.block_lt_of_cell? _ _ h13)).trans h13; have HC4 := Lib.hid (Kd.C_below HC3.out hb); clear hx hb h13))
        go_wp2_with (first
          | (refine Go.Great.wpList_buildSliceTo rfl 217 186 1 _ rfl w10.heap.size rfl (some 70) rfl Try.underlying217 #[.func (.func 131) #[] #[.pointer (some ⟨w9.heap.size, 0, none⟩), .pointer (some ⟨w9.heap.size + 1, 0, none⟩)]] (by kernel_rfl) ?_; refine gen_wl (fun W => W.heap[w10.heap.size]? = some (.cells #[.func (.func 131) #[] #[.pointer (some ⟨w9.heap.size, 0, none⟩), .pointer (some ⟨w9.heap.size + 1, 0, none⟩)]] 186 (0, 0)) ∧ Below w10.heap.size w10 W) ⟨heap_alloc_new _ _, below_alloc (Below.refl _ _) _⟩ ?_; rintro w11 ⟨hx, hb⟩; have HX11 := Lib.hid hx; have HB11 := Lib.hid (below_step HB10.out hb); have H011 := Lib.hid (blk_call hb H010.out); have h111 := (hb.cell (World.block_lt_of_cell? _ _ h110)).trans h110; have HC11 := Lib.hid (Kd.C_below HC10.out hb); have HA11 := Lib.hid (HA10.out.later hb); have HE11 := Lib.hid (HE10.out.later hb); have HG11 := Lib.hid (And.intro ((blk_cell (blk_call hb HG1.out) 0).trans rfl) ((blk_cell (blk_call hb HG2.out) 0).trans rfl)); clear hx hb h110)
          | (go_at_call 128; refine (first_calls _ _ _ _).mono ?_; rintro e w' ⟨rfl, rfl⟩)
          | (go_at_call 127; refine (by_firstN (fs := [⟨131, #[.pointer (some ⟨w9.heap.size, 0, none⟩), .pointer (some ⟨w9.heap.size + 1, 0, none⟩)], sumC (plL L1 L1.length) (plL L2 L2.length)⟩]) HN.out rfl _ _ _ HX11.out (ok1 (okSum (InP ps qs) HG11.out.1 HG11.out.2 HA11.out HE11.out (plL_small _ _ (by have := HS5.out.len; have := HLL.out; omega)) (plL_small _ _ (by have := HS8.out.len; have := HLL.out; omega)))) (show (1 : Nat) < 1000 by decide) HIN.out HC11.out HLL.out).mono ?_; rintro e w12 ⟨A12, c12, L3, rfl, hL, hc, hC, hb⟩; have HS12 := Lib.hid hL; have HN12 := Lib.hid hc; have HD12 := Lib.hid hC; have HB12 := Lib.hid (below_step HB11.out hb); have H012 := Lib.hid (blk_call hb H011.out); have h112 := (hb.cell (World.block_lt_of_cell? _ _ h111)).trans h111; have HC12 := Lib.hid (Kd.C_below HC11.out hb); clear hL hc hC hb h111))
        go_ret
        refine fin ((HS12.out.len).trans HN.out) HN12.out HD12.out HB12.out ⟨fun h => ?_, fun _ => ?_⟩
        · rw [HBAD.out] at h; simp at h
        · exact ⟨fun h => absurd h (by decide), fun h => absurd h (by decide), fun h => absurd h (by decide), fun _ => ⟨L1, L2, HS5.out, HS8.out, HS12.out⟩, fun _ _ _ h => absurd rfl h⟩
      have n4 : (st == 4) = false := by simpa using e4
      go_wp2_with fail
      go_ret
      exact fin (n := 0) (L := []) rfl (Nat.le_refl _) (c_none _) HB3.out ⟨fun _ => rfl, fun _ => ⟨fun h => absurd h e1, fun h => absurd h e2, fun h => absurd h e3, fun h => absurd h e4, fun _ _ _ _ => rfl⟩⟩
    · go_wp2_with (first
      | (go_at_call 119; refine (KP.out _ HB1.out).mono ?_; rintro e w2 ⟨rfl, hb⟩; have HB2 := Lib.hid (below_step HB1.out hb); have H02 := Lib.hid (blk_call hb H01.out); have h12 := (hb.cell (World.block_lt_of_cell? _ _ h11)).trans h11; have HC2 := Lib.hid (Kd.C_below HC1.out hb); clear hb)
      | (go_at_call 122; refine (KD.out _ _ _ (HM.out _ H02.out h12 HB2.out) HC2.out).mono ?_; rintro e w3 ⟨rfl, hb⟩; have HB3 := Lib.hid (below_step HB2.out hb); have H03 := Lib.hid (blk_call hb H02.out); have h13 := (hb.cell (World.block_lt_of_cell? _ _ h12)).trans h12; have HC3 := Lib.hid (Kd.C_below HC2.out hb); have k0 := (blk_cell H03.out 1).trans HCF.out.c1; clear hb))
      go_ret
      refine ⟨none, 0, [], rfl, Nat.le_refl _, c_none _, HB3.out, fun _ => rfl, fun h => ?_⟩
      rw [HBAD.out] at h
      simp at h
  · go_wp2_with (first
      | (go_at_call 119; refine (KP.out _ HB1.out).mono ?_; rintro e w2 ⟨rfl, hb⟩; have HB2 := Lib.hid (below_step HB1.out hb); clear hb))
    go_ret
    refine ⟨none, 0, [], rfl, Nat.le_refl _, c_none _, HB2.out, fun _ => rfl, fun h => ?_⟩
    rw [HBAD.out] at h
    simp at h
end Go.Proofs.Ytaoflcmjmhfblaa.R
