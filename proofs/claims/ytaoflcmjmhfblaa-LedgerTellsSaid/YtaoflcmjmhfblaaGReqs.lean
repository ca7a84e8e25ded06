/- slices.SortStableFunc at the requests, in the order of their tokens: the closure, the row that is sorted. -/
import Derived.Test.YtaoflcmjmhfblaaQ0
import Derived.Test.YtaoflcmjmhfblaaGBase
import Derived.Test.YtaoflcmjmhfblaaStabWK
import Derived.Test.YtaoflcmjmhfblaaGLedger
namespace Go.Proofs.Ytaoflcmjmhfblaa.Q
open Go.RowKit Go.Proofs.YtaoflcmjmhfblaaW.PrintWords Go.Proofs.YtaoflcmjmhfblaaW.PrintLast Go.Proofs.YtaoflcmjmhfblaaW.PrintMore Go.Proofs.Ytaoflcmjmhfblaa.H Go.Proofs.Ytaoflcmjmhfblaa.HK Go.Shelf Go.Sort
set_option linter.unusedVariables false
set_option linter.unusedSimpArgs false
abbrev ReqS := S59
instance : Inhabited ReqS := ⟨z59⟩
def cQ (x : ReqS) : List Value := [.int .u8 x.f0, .int .u64 x.f1, .int .i64 x.f2, .bool x.f3, .int .u64 x.f4]
def eQ (p : Nat × ReqS) : List Value := cQ p.2
def cfQ (x y : Nat × ReqS) : Int := cmpI x.2.f1 y.2.f1
theorem cfQ_ok : CfOk cfQ := by
  constructor
  · intro x y
    unfold cfQ cmpI
    repeat' split
    all_goals omega
  · intro x y z
    unfold cfQ cmpI
    repeat' split
    all_goals omega
theorem eQ_len (p : Nat × ReqS) : (eQ p).length = 5 := rfl
theorem eQ_one (p : Nat × ReqS) : ∀ v ∈ eQ p, v.oneCell' = true := by
  intro v hv
  simp only [eQ, cQ, List.mem_cons, List.not_mem_nil, or_false] at hv
  rcases hv with rfl | rfl | rfl | rfl | rfl <;> rfl
theorem nanU_calls (n : Int) (w : World) : Calls Try.prog 164 #[.int .u64 n] w fun e w' => e = .returned (.bool false) ∧ w = w' := by
  go_enter Try.func164, Try.ntmps164
  go_wp2
  go_ret
  exact ⟨rfl, rfl⟩
theorem cmpU_calls (x y : Int) (w : World) : Calls Try.prog 139 #[.int .u64 x, .int .u64 y] w fun e w' => e = .returned (.int .i64 (cmpI x y)) ∧ w = w' := by
  obtain ⟨r, hr⟩ : ∃ r, cmpI x y = r := ⟨_, rfl⟩
  rw [hr]
  have HR := Lib.hid hr
  clear hr
  rcases Int.lt_trichotomy x y with h | h | h
  all_goals
    go_enter Try.func139, Try.ntmps139
    go_wp2_with (first | (go_at_call 164; refine (nanU_calls _ _).mono ?_; rintro e w' ⟨rfl, rfl⟩))
  all_goals first
    | (exfalso; omega)
    | (go_ret; exact ⟨by rw [← HR.out]; unfold cmpI; first | (rw [if_pos (by omega)]; rfl) | (rw [if_neg (by omega), if_pos (by omega)]; rfl) | (rw [if_neg (by omega), if_neg (by omega)]; rfl), rfl⟩)
theorem two_alloc (w : World) (a b : Obj) : ∃ q os', (w.alloc a).alloc b = grow (w.drewN q) os' :=
  ⟨0, #[a, b], by rw [alloc_eq_grow, alloc_eq_grow, grow_grow]; rfl⟩
/-- The closure: it boxes its two requests. -/
theorem reqs1_calls (x y : ReqS) (w : World) : Calls Try.prog 138 #[.agg (cQ x).toArray, .agg (cQ y).toArray] w fun e w' => e = .returned (.int .i64 (cmpI x.f1 y.f1)) ∧ ∃ q os', w' = grow (w.drewN q) os' := by
  simp only [cQ]
  have KC := Lib.hid (fun W => cmpU_calls x.f1 y.f1 W)
  go_enter Try.func138, Try.ntmps138
  go_wp2_with (first | (go_at_call 139; refine (KC.out _).mono ?_; rintro e w2 ⟨rfl, rfl⟩))
  go_ret
  exact ⟨rfl, two_alloc _ _ _⟩
set_option maxRecDepth 100000 in
theorem insNoneQ (p : Option Addr) (cap : Nat) (fv : Value) (w : World) : Calls Try.prog 170 #[.slice p 0 cap, .int .i64 0, .int .i64 0, fv] w fun e w' => e = .returned (.tuple #[]) ∧ w = w' := by
  go_enter Try.func170, Try.ntmps170
  go_wp2
  refine wp_loop_rounds 1 ?_
  rw [rounds_succ]
  go_wp2
  go_end0
  exact ⟨rfl, rfl⟩
set_option maxRecDepth 100000 in
theorem stableNoneQ (p : Option Addr) (cap : Nat) (fv : Value) (w : World) : Calls Try.prog 137 #[.slice p 0 cap, fv] w fun e w' => e = .returned (.tuple #[]) ∧ w = w' := by
  have K : ∀ W, Calls Try.prog 163 #[.slice p 0 cap, .int .i64 0, fv] W fun e w' => e = .returned (.tuple #[]) ∧ W = w' := by
    intro W
    go_enter Try.func163, Try.ntmps163
    go_wp2
    refine wp_loop_rounds 1 ?_
    rw [rounds_succ]
    go_wp2_with (first | (go_at_call 170; refine (insNoneQ _ _ _ _).mono ?_; rintro e w1 ⟨rfl, rfl⟩))
    refine wp_loop_rounds 1 ?_
    rw [rounds_succ]
    go_wp2
    go_end0
    exact ⟨rfl, rfl⟩
  have KH := Lib.hid K
  clear K
  go_enter Try.func137, Try.ntmps137
  go_wp2_with (first | (go_at_call 163; refine (KH.out _).mono ?_; rintro e w1 ⟨rfl, rfl⟩))
  go_end0
  exact ⟨rfl, rfl⟩
/-- What an own row of requests lies in. -/
theorem reqs_open {w : World} {base : Nat} {ok : Nat → Prop} {v : Value} {xs : List ReqS} (h : Kd.R k59 59 w base ok v xs) (hn : 0 < xs.length) :
    ∃ g cap cur, v = .slice (some ⟨g, 0, none⟩) xs.length cap ∧ base ≤ g ∧ w.heap[g]? = some (.cells cur 59 (0, 0)) ∧ xs.length ≤ cap ∧ cap ≤ maxLen ∧ cur.size = cap * 5 ∧
      ∀ i x, xs[i]? = some x → ∀ c u, (cQ x)[c]? = some u → cur[i * 5 + c]? = some u := by
  obtain ⟨_, inner, ⟨hl, ho⟩, hrep⟩ := h
  have hsz : k59.sz = 5 := rfl
  rw [hsz] at hl ho hrep
  rcases ho with ⟨_, hz⟩ | ⟨g, cap, cur, hv, hb, hh, hc, hm, hs, ht⟩
  · omega
  · refine ⟨g, cap, cur, hv, hb, hh, hc, hm, hs, fun i x hx c u hu => ?_⟩
    have h1 := k59_openM (hrep.2 i x hx)
    have h2 : ((inner.drop (i * 5)).take 5)[c]? = some u := by rw [h1]; exact hu
    have hc5 : c < 5 := (List.getElem?_eq_some_iff.1 hu).1
    have hi : i < xs.length := (List.getElem?_eq_some_iff.1 hx).1
    rw [List.getElem?_take_of_lt hc5, List.getElem?_drop, ← ht, List.getElem?_take_of_lt (by omega), Array.getElem?_toList] at h2
    exact h2
theorem reqs_make {w : World} {base g cap : Nat} {cur : Array Value} {xs : List ReqS} (hb : base ≤ g) (hh : w.heap[g]? = some (.cells cur 59 (0, 0))) (hc : xs.length ≤ cap) (hm : cap ≤ maxLen) (hs : cur.size = cap * 5)
    (hx : ∀ i x, xs[i]? = some x → ∀ c u, (cQ x)[c]? = some u → cur[i * 5 + c]? = some u) : Kd.R k59 59 w base (fun _ => True) (.slice (some ⟨g, 0, none⟩) xs.length cap) xs := by
  have hsz : k59.sz = 5 := rfl
  refine ⟨fun _ _ => trivial, cur.toList.take (xs.length * 5), ⟨?_, .inr ⟨g, cap, cur, rfl, hb, hh, hc, hm, by rw [hsz]; exact hs, by rw [hsz]⟩⟩, ?_⟩
  · rw [hsz, List.length_take, show cur.toList.length = cap * 5 from hs]; omega
  · rw [hsz]
    refine ⟨by rw [List.length_take, show cur.toList.length = cap * 5 from hs]; omega, fun j p hj => ?_⟩
    have hi : j < xs.length := (List.getElem?_eq_some_iff.1 hj).1
    have e : ((cur.toList.take (xs.length * 5)).drop (j * 5)).take 5 = cQ p := by
      apply List.ext_getElem?
      intro c
      by_cases hc5 : c < 5
      · rw [List.getElem?_take_of_lt hc5, List.getElem?_drop, List.getElem?_take_of_lt (by omega), Array.getElem?_toList]
        have hl : (cQ p).length = 5 := rfl
        have := hx j p hj c _ (List.getElem?_eq_getElem (by rw [hl]; exact hc5))
        rw [this, List.getElem?_eq_getElem (by rw [hl]; exact hc5)]
      · rw [List.getElem?_eq_none (by rw [List.length_take]; omega), List.getElem?_eq_none (by show 5 ≤ c; omega)]
    rw [e]
    exact k59_mkM _ _ _ _
theorem putCells_size_id (off : Nat) (d c : Array Value) : (putCells id off d c).size = c.size := by
  unfold putCells
  exact Array.size_mapIdx
theorem below_swK {α : Type} [Inhabited α] {enc : α → List Value} {k : Nat} {w W : World} {blk base : Nat} {dk : Array α} (h : SWK enc k w blk 0 dk W) (hb : base ≤ blk) (hs : base ≤ w.heap.size) : Below base w W := by
  obtain ⟨n, os, rfl⟩ := h
  refine ⟨rfl, rfl, rfl, ?_, fun k hk => ?_⟩
  · unfold sortWorldK
    rw [Go.Sort.size_grow, size_putRowK]
    exact Nat.le_add_right _ _
  · show (((mapBlock (Sort.ahead w n) blk _).heap ++ os))[k]? = w.heap[k]?
    unfold mapBlock
    have hk2 : k < w.heap.size := by omega
    rw [Array.getElem?_append_left (by simp [Sort.ahead]; omega), Array.getElem?_modify, if_neg (by omega)]
    rfl
end Go.Proofs.Ytaoflcmjmhfblaa.Q
/- The sort of an own row of requests. -/
namespace Go.Proofs.Ytaoflcmjmhfblaa.Q
open Go.RowKit Go.Proofs.YtaoflcmjmhfblaaW.PrintWords Go.Proofs.YtaoflcmjmhfblaaW.PrintLast Go.Proofs.YtaoflcmjmhfblaaW.PrintMore Go.Proofs.Ytaoflcmjmhfblaa.H Go.Proofs.Ytaoflcmjmhfblaa.HK Go.Shelf Go.Sort
set_option linter.unusedVariables false
set_option linter.unusedSimpArgs false
def zipA (xs : List ReqS) : Array (Nat × ReqS) := (xs.zipIdx.map (fun p => (p.2, p.1))).toArray
theorem zipA_size (xs : List ReqS) : (zipA xs).size = xs.length := by simp [zipA]
theorem zipA_get {xs : List ReqS} {k : Nat} {x : ReqS} (h : xs[k]? = some x) : (zipA xs)[k]! = (k, x) := by
  have hk : k < xs.length := (List.getElem?_eq_some_iff.1 h).1
  have e : (zipA xs)[k]? = some (k, x) := by
    unfold zipA
    rw [List.getElem?_toArray, List.getElem?_map, List.getElem?_zipIdx, h]
    simp
  rw [getElem!_pos (zipA xs) k (by rw [zipA_size]; exact hk)]
  rw [Array.getElem?_eq_getElem (by rw [zipA_size]; exact hk)] at e
  exact Option.some.inj e
theorem holds_zip {w : World} {g cap : Nat} {cur : Array Value} {xs : List ReqS} (hh : w.heap[g]? = some (.cells cur 59 (0, 0)))
    (hx : ∀ i x, xs[i]? = some x → ∀ c u, (cQ x)[c]? = some u → cur[i * 5 + c]? = some u) : HoldsK eQ 5 w g 0 (zipA xs) := by
  intro j hj
  rw [size_flatK, zipA_size] at hj
  have hi : j / 5 < xs.length := by omega
  have h1 : xs[j / 5]? = some xs[j / 5] := List.getElem?_eq_getElem hi
  have hc5 : j % 5 < (cQ xs[j / 5]).length := Nat.mod_lt _ (by decide)
  have h2 := hx (j / 5) _ h1 (j % 5) _ (List.getElem?_eq_getElem hc5)
  rw [show j / 5 * 5 + j % 5 = j by omega] at h2
  refine ⟨?_, by simp [World.frozen?, hh]⟩
  rw [get_flatK _ _ _ _ (by rw [zipA_size]; exact hj), zipA_get h1, Nat.zero_add]
  show w.cell? ⟨g, j, none⟩ = some (id (cQ xs[j / 5])[j % 5]!)
  rw [getElem!_pos (cQ xs[j / 5]) (j % 5) hc5]
  simp [World.cell?, hh, h2]
/-- xs in the order of the tokens, of one token as they stood. -/
def SortedQ (xs ys : List ReqS) : Prop := ∃ d' : Array (Nat × ReqS), MPost cfQ Prod.fst 0 xs.length (zipA xs) d' ∧ ys = d'.toList.map (·.2)
theorem reqs_sort {w0 w : World} {v : Value} {base : Nat} {xs : List ReqS} (h : Kd.R k59 59 w base (fun _ => True) v xs) (hb0 : Below base w0 w) (hbase : base ≤ w.heap.size) (hn : xs.length < 1152921504606846976) :
    ∃ A c, v = .slice A xs.length c ∧ Calls Try.prog 137 #[.slice A xs.length c, .func (.func 138) #[] #[]] w fun e w' => e = .returned (.tuple #[]) ∧ ∃ ys, SortedQ xs ys ∧ Kd.R k59 59 w' base (fun _ => True) v ys ∧ Below base w0 w' := by
  rcases Nat.eq_zero_or_pos xs.length with h0 | h0
  · have e0 : xs = [] := List.eq_nil_of_length_eq_zero h0
    subst e0
    obtain ⟨A, c, rfl⟩ := Kd.R_slice h
    refine ⟨A, c, rfl, (stableNoneQ A c _ w).mono fun e w' q => ⟨q.1, [], ⟨zipA [], ⟨permIn_refl _ _ _, fun i j _ _ hj => absurd hj (by simp)⟩, rfl⟩, by rw [← q.2]; exact h, by rw [← q.2]; exact hb0⟩⟩
  · obtain ⟨g, cap, cur, rfl, hg, hh, hc, hm, hs, hx⟩ := reqs_open h h0
    refine ⟨_, _, rfl, ?_⟩
    have hH := holds_zip hh hx (cap := cap)
    have hlt : g < w.heap.size := (Array.getElem?_eq_some_iff.1 hh).1
    have eg : ∀ args w, (callFunc 138 args).run Try.prog w = .ok (.enter 138 args) w := fun args w => by kernel_rfl
    have hlays : CmpLays Try.prog 138 #[] eQ 5 cfQ g 0 (zipA xs).size w := fun m os dk hdk x y => reqs1_calls x.2 y.2 _
    have K := sortStableN_calls lays eQ 138 g 0 cap #[] cfQ Prod.fst cfQ_ok (zipA xs) w eg hlays eQ_len eQ_one hH hlt (by rw [zipA_size]; exact hn) (fun k hk => by
      rw [zipA_size] at hk
      rw [zipA_get (List.getElem?_eq_getElem hk)])
    rw [zipA_size] at K
    refine K.mono fun e w' q => ⟨q.1, ?_⟩
    obtain ⟨_, d', hp, hsw⟩ := q
    have hd : d'.size = xs.length := by rw [hp.1.1, zipA_size]
    have hH2 := hsw.holds hlt hH (by rw [hd, zipA_size])
    have hB := below_swK hsw hg hbase
    refine ⟨_, ⟨d', hp, rfl⟩, ?_, hb0.trans hB⟩
    obtain ⟨cur', hh', hs'⟩ : ∃ cur', w'.heap[g]? = some (.cells cur' 59 (0, 0)) ∧ cur'.size = cap * 5 := by
      obtain ⟨n, os, rfl⟩ := hsw
      refine ⟨putCells id 0 (flatK eQ 5 d') cur, ?_, by rw [putCells_size_id]; exact hs⟩
      unfold sortWorldK
      rw [heap_grow_old _ _ (by rw [size_putRowK]; exact hlt)]
      show ((Sort.ahead w n).heap.modify g (onCells _))[g]? = _
      rw [Array.getElem?_modify, if_pos rfl]
      show (w.heap[g]?).map _ = _
      rw [hh]
      rfl
    have hlen : (d'.toList.map (·.2)).length = xs.length := by rw [List.length_map, ← hd]; rfl
    rw [show xs.length = (d'.toList.map (·.2)).length from hlen.symm]
    refine reqs_make hg hh' (by rw [hlen]; exact hc) hm hs' (fun i x hi c u hu => ?_)
    have hi2 : i < d'.size := by have := (List.getElem?_eq_some_iff.1 hi).1; rw [hlen] at this; omega
    have hc5 : c < 5 := (List.getElem?_eq_some_iff.1 hu).1
    have ex : (d'[i]!).2 = x := by
      rw [getElem!_pos d' i hi2]
      rw [List.getElem?_map, Array.getElem?_toList, Array.getElem?_eq_getElem hi2] at hi
      exact Option.some.inj hi
    have h3 := (HoldsK.cell hH2 hi2 hc5).1
    rw [Nat.zero_add] at h3
    have e3 : (eQ d'[i]!)[c]! = u := by
      show (cQ (d'[i]!).2)[c]! = u
      rw [ex, getElem!_pos (cQ x) c hc5]
      rw [List.getElem?_eq_getElem hc5] at hu
      exact Option.some.inj hu
    rw [e3] at h3
    simpa [World.cell?, hh'] using h3
end Go.Proofs.Ytaoflcmjmhfblaa.Q
/- The stable sort's answer is the document's: one after another, behind those of no greater token. -/
namespace Go.Proofs.Ytaoflcmjmhfblaa.Q
open Go.RowKit Go.Proofs.Ytaoflcmjmhfblaa.H Go.Proofs.Ytaoflcmjmhfblaa.HK Go.Shelf Go.Sort
set_option linter.unusedVariables false
def insQ (x : ReqS) : List ReqS → List ReqS
  | [] => [x]
  | y :: ys => if y.f1 ≤ x.f1 then y :: insQ x ys else x :: y :: ys
def insL (xs : List ReqS) : List ReqS := xs.foldl (fun out x => insQ x out) []
def insP (p : Nat × ReqS) : List (Nat × ReqS) → List (Nat × ReqS)
  | [] => [p]
  | q :: qs => if q.2.f1 ≤ p.2.f1 then q :: insP p qs else p :: q :: qs
def leQ : Nat × ReqS → Nat × ReqS → Prop := leR cfQ Prod.fst
theorem insP_snd (p : Nat × ReqS) (l : List (Nat × ReqS)) : (insP p l).map (·.2) = insQ p.2 (l.map (·.2)) := by
  induction l with
  | nil => rfl
  | cons q qs ih =>
    show (insP p (q :: qs)).map (·.2) = insQ p.2 (q.2 :: qs.map (·.2))
    unfold insP insQ
    split
    · rw [List.map_cons, ih]
    · rfl
theorem insP_perm (p : Nat × ReqS) (l : List (Nat × ReqS)) : (insP p l).Perm (p :: l) := by
  induction l with
  | nil => exact List.Perm.refl _
  | cons q qs ih =>
    unfold insP
    split
    · exact (ih.cons q).trans (List.Perm.swap p q qs)
    · exact List.Perm.refl _
theorem leQ_of_le {p q : Nat × ReqS} (h : q.2.f1 ≤ p.2.f1) (hi : q.1 ≤ p.1) : leQ q p := by
  unfold leQ leR cfQ cmpI
  by_cases c : q.2.f1 < p.2.f1
  · exact .inl (by rw [if_pos c]; decide)
  · exact .inr ⟨by rw [if_neg c, if_neg (by omega)], hi⟩
theorem leQ_lt {p q : Nat × ReqS} (h : ¬ q.2.f1 ≤ p.2.f1) : leQ p q := by
  unfold leQ leR cfQ cmpI
  exact .inl (by rw [if_pos (by omega)]; decide)
theorem insP_sorted (p : Nat × ReqS) (l : List (Nat × ReqS)) (hl : l.Pairwise leQ) (hi : ∀ q ∈ l, q.1 ≤ p.1) : (insP p l).Pairwise leQ := by
  induction l with
  | nil => exact List.pairwise_singleton _ _
  | cons q qs ih =>
    rw [List.pairwise_cons] at hl
    unfold insP
    split
    · rename_i h
      rw [List.pairwise_cons]
      refine ⟨fun a ha => ?_, ih hl.2 (fun a ha => hi a (List.mem_cons_of_mem _ ha))⟩
      rcases List.mem_cons.1 ((insP_perm p qs).mem_iff.1 ha) with rfl | ha
      · exact leQ_of_le h (hi q List.mem_cons_self)
      · exact hl.1 a ha
    · rename_i h
      rw [List.pairwise_cons]
      refine ⟨fun a ha => ?_, List.pairwise_cons.2 hl⟩
      rcases List.mem_cons.1 ha with rfl | ha
      · exact leQ_lt h
      · exact leR_trans cfQ_ok (leQ_lt h) (hl.1 a ha)
def pairs (xs : List ReqS) : List (Nat × ReqS) := xs.zipIdx.map (fun p => (p.2, p.1))
def insPL (ps : List (Nat × ReqS)) : List (Nat × ReqS) := ps.foldl (fun out p => insP p out) []
theorem pairs_snoc (xs : List ReqS) (x : ReqS) : pairs (xs ++ [x]) = pairs xs ++ [(xs.length, x)] := by
  unfold pairs
  rw [List.zipIdx_append, List.map_append]
  simp
theorem insPL_snoc (ps : List (Nat × ReqS)) (p : Nat × ReqS) : insPL (ps ++ [p]) = insP p (insPL ps) := by simp [insPL, List.foldl_append]
theorem insL_snoc (xs : List ReqS) (x : ReqS) : insL (xs ++ [x]) = insQ x (insL xs) := by simp [insL, List.foldl_append]
theorem rev_ind {α : Type} {P : List α → Prop} (h0 : P []) (h1 : ∀ l x, P l → P (l ++ [x])) (l : List α) : P l := by
  have h : ∀ l : List α, P l.reverse := by
    intro l
    induction l with
    | nil => exact h0
    | cons x l ih => rw [List.reverse_cons]; exact h1 _ _ ih
  have := h l.reverse
  rwa [List.reverse_reverse] at this
theorem mem_pairs {xs : List ReqS} {p : Nat × ReqS} (h : p ∈ pairs xs) : xs[p.1]? = some p.2 := by
  unfold pairs at h
  obtain ⟨q, hq, rfl⟩ := List.mem_map.1 h
  exact List.mem_zipIdx_iff_getElem?.1 hq
theorem insPL_all (xs : List ReqS) : (insPL (pairs xs)).Perm (pairs xs) ∧ (insPL (pairs xs)).Pairwise leQ ∧ (insPL (pairs xs)).map (·.2) = insL xs := by
  induction xs using rev_ind with
  | h0 => exact ⟨List.Perm.refl _, List.Pairwise.nil, rfl⟩
  | h1 l x ih =>
    obtain ⟨h1, h2, h3⟩ := ih
    rw [pairs_snoc, insPL_snoc, insL_snoc]
    refine ⟨(insP_perm _ _).trans (((h1.cons _)).trans (List.perm_append_singleton _ _).symm), insP_sorted _ _ h2 (fun q hq => ?_), by rw [insP_snd, h3]⟩
    have := (List.getElem?_eq_some_iff.1 (mem_pairs (h1.mem_iff.1 hq))).1
    exact Nat.le_of_lt this
theorem sortedQ_eq {xs ys : List ReqS} (h : SortedQ xs ys) : ys = insL xs := by
  obtain ⟨d', ⟨⟨hs, _, hp⟩, ho⟩, rfl⟩ := h
  have hz := zipA_size xs
  have e1 : d'.extract 0 xs.length = d' := Array.extract_eq_self_of_le (by omega)
  have e2 : (zipA xs).extract 0 xs.length = zipA xs := Array.extract_eq_self_of_le (by omega)
  rw [e1, e2] at hp
  have hp2 : d'.toList.Perm (pairs xs) := by
    have e3 : (zipA xs).toList = pairs xs := by simp [zipA, pairs]
    rwa [e3] at hp
  obtain ⟨q1, q2, q3⟩ := insPL_all xs
  have hw : d'.toList.Pairwise leQ := by
    rw [List.pairwise_iff_getElem]
    intro i j hi hj hij
    have hi' : i < d'.size := hi
    have hj' : j < d'.size := hj
    have := ho i j (Nat.zero_le _) hij (by omega)
    rw [getElem!_pos d' i hi', getElem!_pos d' j hj'] at this
    exact this
  rw [← q3]
  congr 1
  refine List.Perm.eq_of_pairwise (fun a b ha hb h1 h2 => ?_) hw q2 (hp2.trans q1.symm)
  have ha' := mem_pairs (hp2.mem_iff.1 ha)
  have hb' := mem_pairs (q1.mem_iff.1 hb)
  have n := cfQ_ok.neg a b
  have e : a.1 = b.1 := by
    rcases h1 with h1 | ⟨h1, i1⟩ <;> rcases h2 with h2 | ⟨h2, i2⟩ <;> omega
  rw [e, hb'] at ha'
  exact Prod.ext e (Option.some.inj ha').symm
end Go.Proofs.Ytaoflcmjmhfblaa.Q
/- ledger.Requests: what is asked, in the order of the tokens. -/
namespace Go.Proofs.Ytaoflcmjmhfblaa.Q
open Go.RowKit Go.Proofs.YtaoflcmjmhfblaaW.PrintWords Go.Proofs.YtaoflcmjmhfblaaW.PrintLast Go.Proofs.YtaoflcmjmhfblaaW.PrintMore Go.Proofs.Ytaoflcmjmhfblaa.H Go.Shelf
set_option linter.unusedVariables false
set_option linter.unusedSimpArgs false
def ledger_Requests.f (l0 : List (S61)) : Option (List S59) := if l0.length ≤ 300 then some (insL (l0.map (fun x => x.f0))) else none
theorem reqMap_take (l : List OpenS) (i : Nat) (y : OpenS) (h : l[i]? = some y) : (l.take (i + 1)).map (fun x => x.f0) = (l.take i).map (fun x => x.f0) ++ [y.f0] := by
  have hi : i < l.length := (List.getElem?_eq_some_iff.1 h).1
  rw [List.take_add_one, h]
  simp
theorem part5 (w : World) (y : OpenS) (t : Nat) : ∀ j v, ([.int .u8 y.f0.f0, .int .u64 y.f0.f1, .int .i64 y.f0.f2, .bool y.f0.f3, .int .u64 y.f0.f4] : List Value)[j]? = some v → (w.alloc (.cells #[.int .u8 y.f0.f0, .int .u64 y.f0.f1, .int .i64 y.f0.f2, .bool y.f0.f3, .int .u64 y.f0.f4, .int .u64 y.f1, .int .i64 y.f2, .bool y.f3, .int .u32 y.f4] t (0, 0))).cell? (({ block := w.heap.size, off := 0 } : Addr).add j) = some v := by
  intro j v hj
  have hj5 : j < 5 := (List.getElem?_eq_some_iff.1 hj).1
  rw [add_lit0]
  have h1 := heap_alloc_new w (.cells #[.int .u8 y.f0.f0, .int .u64 y.f0.f1, .int .i64 y.f0.f2, .bool y.f0.f3, .int .u64 y.f0.f4, .int .u64 y.f1, .int .i64 y.f2, .bool y.f3, .int .u32 y.f4] t (0, 0))
  have : j = 0 ∨ j = 1 ∨ j = 2 ∨ j = 3 ∨ j = 4 := by omega
  rcases this with rfl | rfl | rfl | rfl | rfl <;> (simp only [World.cell?, h1]; exact hj)
set_option maxHeartbeats 4000000 in
set_option maxRecDepth 1000000 in
theorem ledger_Requests.calls (A0 : Option Addr) (c0 : Nat) (l0 : List (S61)) (r : List (S59)) (w : World) (hr0 : Kd.C k61 w A0 l0.length l0) (hc0 : l0.length ≤ c0) (h : ledger_Requests.f l0 = some r) :
    Calls Try.prog 56 #[.slice A0 l0.length c0] w fun e w' => ∃ v0_ : Value, e = .returned (v0_) ∧ Kd.R k59 59 w' w.heap.size (fun _ => True) v0_ r ∧ Below w.heap.size w w' := by
  unfold ledger_Requests.f at h
  by_cases hl : l0.length ≤ 300
  · rw [if_pos hl] at h
    have hr := Option.some.inj h
    clear h
    obtain ⟨n, hn⟩ : ∃ n, l0.length = n := ⟨_, rfl⟩
    rw [hn] at hr0 hl hc0 ⊢
    have H := Lib.hid hr0
    have HN := Lib.hid hn
    have HLL := Lib.hid hl
    have HR := Lib.hid hr
    have hm : (n : Int) < 9223372036854775807 := by omega
    clear hr0 hn hr
    go_enter Try.func56, Try.ntmps56
    go_wp2
    go_loopw [3, 8] (fun v3 v8 wr => ∃ (i : Nat), i ≤ n ∧ v8 = .int .i64 i ∧ Hid (Kd.R k59 59 wr w.heap.size (fun _ => True) v3 ((l0.take i).map (fun x => x.f0))) ∧ Hid (Below w.heap.size w wr)) (fun _ v8 _ => n - (intOf v8).toNat)
    case atStart => exact ⟨0, Nat.zero_le _, rfl, Lib.hid (Kd.R_nil _ _ _ _ _), Lib.hid (Below.refl _ _)⟩
    case round =>
      rename_i u3 u8
      obtain ⟨i, hi, rfl, HO, HB⟩ := hrel
      by_cases hlt : i < n
      · have hltz : (i : Int) < (n : Int) := by omega
        obtain ⟨ad, ea, hc⟩ := loadOpen (Kd.C_below H.out HB.out) i hlt
        subst ea
        obtain ⟨y, hy⟩ : ∃ y, l0.getD i z61 = y := ⟨_, rfl⟩
        rw [hy] at hc
        have hlj : l0[i]? = some y := by rw [← hy, List.getD_eq_getElem?_getD, List.getElem?_eq_getElem (by rw [HN.out]; exact hlt)]; rfl
        have HCC := Lib.hid hc
        have HTK := Lib.hid (reqMap_take l0 i y hlj)
        have w1e : IntKind.i64.wrap ((i : Int) + 1) = (i : Int) + 1 := by rw [IntKind.wrap_i64]; omega
        have HB2 := Lib.hid (HB.out.alloc HB.out.size (.cells #[.int .u8 y.f0.f0, .int .u64 y.f0.f1, .int .i64 y.f0.f2, .bool y.f0.f3, .int .u64 y.f0.f4, .int .u64 y.f1, .int .i64 y.f2, .bool y.f3, .int .u32 y.f4] 61 (0, 0)))
        have HRO := Lib.hid (Kd.R_alloc HO.out (.cells #[.int .u8 y.f0.f0, .int .u64 y.f0.f1, .int .i64 y.f0.f2, .bool y.f0.f3, .int .u64 y.f0.f4, .int .u64 y.f1, .int .i64 y.f2, .bool y.f3, .int .u32 y.f4] 61 (0, 0)))
        have HP5 := Lib.hid (part5 wr y 61)
        obtain ⟨Y, hY⟩ : ∃ Y, (l0.take i).map (fun x => x.f0) = Y := ⟨_, rfl⟩
        have hlen : Y.length ≤ i := by rw [← hY, List.length_map, List.length_take]; omega
        rw [hY] at HRO HTK
        have HLN := Lib.hid (show (Y.length + 1) * 40 ≤ 140737488355328 by have := HLL.out; omega)
        clear hc hy hlj hY hlen HB HO
        go_upto_region 5 with (first
          | ((with_reducible refine gate_load 61 rfl ?_); refine wpList_load_any rfl 61 _ rfl _ rfl _ _ HCC.out Try.underlying61 rfl (by kernel_rfl) ?_)
          | ((with_reducible refine gate_storeT 61 rfl ?_); refine wpList_store_row rfl 61 _ _ rfl _ _ rfl rfl 61 _ (heap_alloc_new _ _) (by kernel_rfl) rfl (by simp [Value.oneCell']) ?_; rw [setRow_alloc]))
        generalize wr.alloc (.cells #[.int .u8 y.f0.f0, .int .u64 y.f0.f1, .int .i64 y.f0.f2, .bool y.f0.f3, .int .u64 y.f0.f4, .int .u64 y.f1, .int .i64 y.f2, .bool y.f3, .int .u32 y.f4] 61 (0, 0)) = wA at HB2 HRO HP5 ⊢
        go_wp2_with (first
          | ((with_reducible refine gate_load 59 rfl ?_); refine wpList_load_any rfl 59 _ rfl _ rfl _ _ HP5.out Try.underlying59 rfl (by kernel_rfl) ?_)
          | ((with_reducible refine gate_builtin (b := .append) (xs := #[.tmp 12, .tmp 15]) rfl ?_); at_builtin; refine Kd.R_append k59 (w0 := w) w.heap.size rfl (.tmp 12) (.tmp 15) 116 59 (.agg #[(.int .u8 0), (.int .u64 0), (.int .i64 0), (.bool false), (.int .u64 0)]) 40 rfl Try.underlying116 info59 rfl (by decide) (by decide) u3 Y y.f0 [.int .u8 y.f0.f0, .int .u64 y.f0.f1, .int .i64 y.f0.f2, .bool y.f0.f3, .int .u64 y.f0.f4] (fun _ => True) (fun _ => False) rfl rfl (k59_mkM _ _ _ y.f0) (fun _ hk => hk.elim) (fun _ _ => trivial) HRO.out HB2.out HB2.out.size HLN.out ?_; intro v1 w3 ho hb hg hat; have HO5 := Lib.hid ho; have HB5 := Lib.hid hb; clear ho hb hg hat))
        exact ⟨⟨i + 1, by omega, by go_num, Lib.hid (by rw [HTK.out]; exact HO5.out), HB5⟩, by simp only [intOf]; omega⟩
      · have : i = n := by omega
        subst this
        obtain ⟨X, hX⟩ : ∃ X, (l0.take i).map (fun x => x.f0) = X := ⟨_, rfl⟩
        have hXl : X = l0.map (fun x => x.f0) := by rw [← hX, List.take_of_length_le (by rw [HN.out]; omega)]
        rw [hX] at HO
        have hXn : X.length ≤ 300 := by rw [hXl, List.length_map, HN.out]; exact HLL.out
        obtain ⟨A, c, rfl, hcall⟩ := reqs_sort HO.out HB.out HB.out.size (by omega)
        have HCA := Lib.hid hcall
        have HXL := Lib.hid hXl
        clear hcall hX hXl HO hXn
        go_wp2_with (first | (go_at_call 137; refine HCA.out.mono ?_; rintro e w2 ⟨rfl, ys, hS, hR2, hB2⟩; have HS2 := Lib.hid hS; have HR2 := Lib.hid hR2; have HB2 := Lib.hid hB2; clear hS hR2 hB2))
        go_ret
        refine ⟨_, rfl, ?_, HB2.out⟩
        have e := sortedQ_eq HS2.out
        rw [HXL.out, HR.out] at e
        rw [← e]
        exact HR2.out
  · rw [if_neg hl] at h
    cases h
end Go.Proofs.Ytaoflcmjmhfblaa.Q
