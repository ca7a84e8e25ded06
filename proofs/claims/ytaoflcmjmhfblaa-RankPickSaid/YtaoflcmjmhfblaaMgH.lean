/- rank.Pick$1: what is told of a place's load. -/
import Derived.Test.YtaoflcmjmhfblaaMgG
import Derived.Test.YtaoflcmjmhfblaaMgA
namespace Go.Proofs.Ytaoflcmjmhfblaa.R
open Go.RowKit Go.Proofs.YtaoflcmjmhfblaaW.PrintWords Go.Proofs.YtaoflcmjmhfblaaW.PrintLast Go.Proofs.YtaoflcmjmhfblaaW.PrintMore Go.Proofs.Ytaoflcmjmhfblaa.H Go.Shelf
set_option linter.unusedVariables false
set_option linter.unusedSimpArgs false
theorem loadJ {w : World} {A : Option Addr} {n : Nat} {l : List Int} (h : Kd.C (Kd.int .i64) w A n l) (i : Nat) (hi : i < n) : ∃ ad, A = some ad ∧ w.cell? (ad.add i) = some (.int .i64 (l.getD i 0)) := loadInt h i hi
def loadI (ls : List Int) (i : Int) : Int := if i < ls.length then ls.getD i.toNat 0 else 0
set_option maxHeartbeats 1000000 in
theorem load1_calls {g7 : Nat} {Al : Option Addr} {cl : Nat} {ls : List Int} (i : Int) (h0 : 0 ≤ i) (w : World) (hc : w.cell? ⟨g7, 0, none⟩ = some (.slice Al ls.length cl)) (hC : Kd.C (Kd.int .i64) w Al ls.length ls) :
    Calls Try.prog 134 #[.int .i64 i, .pointer (some ⟨g7, 0, none⟩)] w fun e w' => e = .returned (.int .i64 (loadI ls i)) ∧ w = w' := by
  unfold loadI
  obtain ⟨i, rfl⟩ : ∃ m : Nat, i = m := ⟨i.toNat, by omega⟩
  rw [Int.toNat_natCast]
  have hm := Kd.C_max hC
  by_cases hlt : i < ls.length
  · obtain ⟨ad, ea, hcell⟩ := loadInt hC i hlt
    subst ea
    rw [if_pos (by omega)]
    obtain ⟨y, hy⟩ : ∃ y, ls.getD i 0 = y := ⟨_, rfl⟩
    rw [hy] at hcell ⊢
    obtain ⟨n, hn⟩ : ∃ n, ls.length = n := ⟨_, rfl⟩
    rw [hn] at hc hm hlt
    clear hC hn hy h0
    go_enter Try.func134, Try.ntmps134
    go_wp2_with fail
    all_goals first | (exfalso; omega) | (go_ret; exact ⟨rfl, rfl⟩)
  · rw [if_neg (by omega)]
    obtain ⟨n, hn⟩ : ∃ n, ls.length = n := ⟨_, rfl⟩
    rw [hn] at hc hm hlt
    clear hC hn h0
    go_enter Try.func134, Try.ntmps134
    go_wp2_with fail
    all_goals first | (exfalso; omega) | (go_ret; exact ⟨rfl, rfl⟩)
end Go.Proofs.Ytaoflcmjmhfblaa.R
/- rank: a sorted list is one alone. -/
namespace Go.Proofs.Ytaoflcmjmhfblaa.R
open Go.RowKit Go.Proofs.YtaoflcmjmhfblaaW.PrintWords Go.Proofs.YtaoflcmjmhfblaaW.PrintLast Go.Proofs.YtaoflcmjmhfblaaW.PrintMore Go.Proofs.Ytaoflcmjmhfblaa.H Go.Shelf
set_option linter.unusedVariables false
set_option linter.unusedSimpArgs false
theorem firstK_zero : ∀ (fs : List (Int → Int → Int)) (i k : Int), firstK fs i k = 0 → i = k
  | [], i, k, h => (cmpI_zero i k).1 h
  | f :: r, i, k, h => by
    have e : firstK (f :: r) i k = (if f i k = 0 then firstK r i k else f i k) := rfl
    rw [e] at h
    by_cases g : f i k = 0
    · rw [if_pos g] at h; exact firstK_zero r i k h
    · rw [if_neg g] at h; exact absurd h g
theorem sorted_pair {cf : Int → Int → Int} : ∀ {L : List Int}, (∀ i j, i < j → j < L.length → cf (L.getD i 0) (L.getD j 0) ≤ 0) → L.Pairwise (fun x y => cf x y ≤ 0)
  | [], _ => List.Pairwise.nil
  | x :: L, h => by
    refine List.pairwise_cons.2 ⟨fun y hy => ?_, sorted_pair (fun i j hij hj => ?_)⟩
    · obtain ⟨j, hj, rfl⟩ := List.getElem_of_mem hy
      have := h 0 (j + 1) (by omega) (by simp only [List.length_cons]; omega)
      simpa [List.getD_eq_getElem?_getD, hj] using this
    · have := h (i + 1) (j + 1) (by omega) (by simp only [List.length_cons]; omega)
      simpa [List.getD_eq_getElem?_getD] using this
theorem pair_unique {cf : Int → Int → Int} : ∀ {L M : List Int}, (∀ x ∈ L, ∀ y ∈ L, cf x y ≤ 0 → cf y x ≤ 0 → x = y) → L.Perm M → L.Pairwise (fun x y => cf x y ≤ 0) → M.Pairwise (fun x y => cf x y ≤ 0) → (∀ x ∈ L, cf x x ≤ 0) → L = M
  | [], M, _, hp, _, _, _ => hp.nil_eq
  | x :: L, [], _, hp, _, _, _ => absurd hp.length_eq (by simp)
  | x :: L, y :: M, ha, hp, hL, hM, hr => by
    obtain ⟨l1, l2⟩ := List.pairwise_cons.1 hL
    obtain ⟨m1, m2⟩ := List.pairwise_cons.1 hM
    have hy : y ∈ x :: L := hp.mem_iff.2 (List.mem_cons_self ..)
    have hx : x ∈ y :: M := hp.mem_iff.1 (List.mem_cons_self ..)
    have e : x = y := by
      rcases List.mem_cons.1 hy with e | h1
      · exact e.symm
      · rcases List.mem_cons.1 hx with e | h2
        · exact e
        · exact ha x (List.mem_cons_self ..) y hy (l1 y h1) (m1 x h2)
    subst e
    rw [pair_unique (fun a h b k => ha a (List.mem_cons_of_mem _ h) b (List.mem_cons_of_mem _ k)) (List.perm_cons x |>.1 hp) l2 m2 (fun a h => hr a (List.mem_cons_of_mem _ h))]
/-- There is one sorted list alone. -/
theorem sorted_one {fs : List (Int → Int → Int)} {l L M : List Int} (ho : OrdOn (firstK fs) l) (h1 : SortedL (firstK fs) l L) (h2 : SortedL (firstK fs) l M) : L = M := by
  refine pair_unique (cf := firstK fs) (fun x hx y hy a b => ?_) (h1.1.trans h2.1.symm) (sorted_pair h1.2) (sorted_pair h2.2) (fun x hx => ?_)
  · have := ho.neg x (h1.1.mem_iff.1 hx) y (h1.1.mem_iff.1 hy)
    exact firstK_zero fs x y (by omega)
  · have := ho.neg x (h1.1.mem_iff.1 hx) x (h1.1.mem_iff.1 hx)
    omega
end Go.Proofs.Ytaoflcmjmhfblaa.R
/- slices.MinFunc at []int. -/
namespace Go.Proofs.Ytaoflcmjmhfblaa.R
open Go.RowKit Go.Proofs.YtaoflcmjmhfblaaW.PrintWords Go.Proofs.YtaoflcmjmhfblaaW.PrintLast Go.Proofs.YtaoflcmjmhfblaaW.PrintMore Go.Proofs.Ytaoflcmjmhfblaa.H Go.Shelf
set_option linter.unusedVariables false
set_option linter.unusedSimpArgs false
/-- The least of the first k + 1 ones. -/
def minF (cf : Int → Int → Int) (l : List Int) : Nat → Int
  | 0 => l.getD 0 0
  | k + 1 => if cf (l.getD (k + 1) 0) (minF cf l k) < 0 then l.getD (k + 1) 0 else minF cf l k
theorem minF_mem {cf : Int → Int → Int} {l : List Int} : ∀ (k : Nat), k < l.length → minF cf l k ∈ l
  | 0, h => by
    show l.getD 0 0 ∈ l
    rw [List.getD_eq_getElem?_getD, List.getElem?_eq_getElem h]
    exact List.getElem_mem _
  | k + 1, h => by
    show (if cf (l.getD (k + 1) 0) (minF cf l k) < 0 then l.getD (k + 1) 0 else minF cf l k) ∈ l
    split
    · rw [List.getD_eq_getElem?_getD, List.getElem?_eq_getElem h]
      exact List.getElem_mem _
    · exact minF_mem k (by omega)
set_option maxHeartbeats 4000000 in
set_option maxRecDepth 100000 in
theorem minFunc_calls {g : Nat} {cap : Array Value} {cf : Int → Int → Int} {S : Int → Prop} {A : Option Addr} (c : Nat) {l : List Int} {n : Nat} {w : World} (hn : l.length = n) (h1 : 1 ≤ n) (eg : ∀ args w, (callFunc g args).run Try.prog w = .ok (.enter g args) w) (hord : OrdW Try.prog g cap cf S w) (hS : ∀ x ∈ l, S x) (h : Kd.C (Kd.int .i64) w A n l) :
    Calls Try.prog 135 #[.slice A n c, .func (.func g) #[] cap] w fun e w' => e = .returned (.int .i64 (minF cf l (n - 1))) ∧ Below w.heap.size w w' := by
  have hm := Kd.C_max h
  have hmem : ∀ k, k < n → minF cf l k ∈ l := fun k hk => minF_mem k (by omega)
  have hget : ∀ k, k < n → l.getD k 0 ∈ l := fun k hk => by
    rw [List.getD_eq_getElem?_getD, List.getElem?_eq_getElem (by omega)]
    exact List.getElem_mem _
  have HMEM := Lib.hid hmem
  have HGET := Lib.hid hget
  have HORD := Lib.hid hord
  have HS := Lib.hid hS
  have H := Lib.hid h
  obtain ⟨ad, ea, hc0⟩ := loadInt h 0 (by omega)
  subst ea
  obtain ⟨y0, hy0⟩ : ∃ y, l.getD 0 0 = y := ⟨_, rfl⟩
  rw [hy0] at hc0
  have HY0 := Lib.hid (show minF cf l 0 = y0 from hy0)
  have hc0b := hc0
  rw [add_zeroA] at hc0b
  have e1 : ((n : Int) < 1) = False := by simp; omega
  clear hmem hget hord hS h hy0 hn
  go_enter Try.func135, Try.ntmps135
  go_wp2_with fail
  go_loopw [5, 6] (fun v5 v6 wr => ∃ k : Nat, k < n ∧ v6 = .int .i64 (k + 1 : Nat) ∧ v5 = .int .i64 (minF cf l k) ∧ Hid (Below w.heap.size w wr)) (fun _ v6 _ => n - (intOf v6).toNat)
  case atStart => exact ⟨0, h1, by go_num, by rw [HY0.out], Lib.hid (Below.refl _ _)⟩
  case round =>
    clear hc0 hc0b HY0 e1
    obtain ⟨k, hk, rfl, rfl, HB⟩ := hrel
    by_cases hlt : k + 1 < n
    · obtain ⟨ad', ea, hc⟩ := loadInt (Kd.C_below H.out HB.out) (k + 1) hlt
      obtain rfl := Option.some.inj ea
      have hsx := HS.out _ (HGET.out (k + 1) hlt)
      have hsm := HS.out _ (HMEM.out k hk)
      have hmin : minF cf l (k + 1) = (if cf (l.getD (k + 1) 0) (minF cf l k) < 0 then l.getD (k + 1) 0 else minF cf l k) := rfl
      obtain ⟨x, hx⟩ : ∃ x, l.getD (k + 1) 0 = x := ⟨_, rfl⟩
      obtain ⟨m, hmm⟩ : ∃ x, minF cf l k = x := ⟨_, rfl⟩
      rw [hx, hmm] at hmin
      rw [hx] at hc hsx
      rw [hmm] at hsm ⊢
      have hcall := HORD.out wr x m hsx hsm HB.out
      obtain ⟨r, hr⟩ : ∃ r, cf x m = r := ⟨_, rfl⟩
      rw [hr] at hcall hmin
      have HK := Lib.hid hcall
      have HMIN := Lib.hid hmin
      clear hcall hmin hr hx hmm hsx hsm ea
      have ec : ad.add (k + 1) = ⟨ad.block, ad.off + (k + 1), none⟩ := by simp [Addr.add]
      rw [ec] at hc
      clear ec
      have l0 : (0 : Int) ≤ ((k + 1 : Nat) : Int) := by omega
      have l1 : (((k + 1 : Nat) : Int) < (n : Int)) := by omega
      go_wp2_with (first | (go_at_fn g; refine HK.out.mono ?_; rintro e w' ⟨rfl, hb'⟩; have HB' := Lib.hid (below_step HB.out hb'.1); have hc2 := (hb'.1.cell (World.block_lt_of_cell? _ _ hc)).trans hc; clear hb'))
      · exact ⟨⟨k + 1, hlt, by go_num, by rw [HMIN.out, if_pos (by assumption)], HB'⟩, by simp only [intOf]; omega⟩
      · exact ⟨⟨k + 1, hlt, by go_num, by rw [HMIN.out, if_neg (by omega)], HB'⟩, by simp only [intOf]; omega⟩
    · have : k + 1 = n := by omega
      go_wp2_with fail
      all_goals first | (exfalso; omega) | (go_ret; exact ⟨ret_i (by rw [show n - 1 = k by omega]), HB.out⟩)
end Go.Proofs.Ytaoflcmjmhfblaa.R
/- rank: the least of some, plain. -/
namespace Go.Proofs.Ytaoflcmjmhfblaa.R
open Go.RowKit Go.Proofs.YtaoflcmjmhfblaaW.PrintWords Go.Proofs.YtaoflcmjmhfblaaW.PrintLast Go.Proofs.YtaoflcmjmhfblaaW.PrintMore Go.Proofs.Ytaoflcmjmhfblaa.H Go.Shelf
set_option linter.unusedVariables false
set_option linter.unusedSimpArgs false
theorem minF_least (g : Int → Int) (l : List Int) : ∀ (k j : Nat), j ≤ k → g (minF (fun i k => cmpI (g i) (g k)) l k) ≤ g (l.getD j 0)
  | 0, j, h => by
    obtain rfl : j = 0 := by omega
    exact Int.le_refl _
  | k + 1, j, h => by
    have ih := minF_least g l k
    have e : minF (fun i k => cmpI (g i) (g k)) l (k + 1) = (if cmpI (g (l.getD (k + 1) 0)) (g (minF (fun i k => cmpI (g i) (g k)) l k)) < 0 then l.getD (k + 1) 0 else minF (fun i k => cmpI (g i) (g k)) l k) := rfl
    rw [e]
    by_cases hc : cmpI (g (l.getD (k + 1) 0)) (g (minF (fun i k => cmpI (g i) (g k)) l k)) < 0
    · rw [if_pos hc]
      rw [cmpI_lt] at hc
      rcases Nat.lt_or_eq_of_le h with q | q
      · have := ih j (by omega); omega
      · rw [q]; exact Int.le_refl _
    · rw [if_neg hc]
      rw [cmpI_lt] at hc
      rcases Nat.lt_or_eq_of_le h with q | q
      · exact ih j (by omega)
      · rw [q]; omega
end Go.Proofs.Ytaoflcmjmhfblaa.R
/- rank.Pick$2: the order by load. -/
namespace Go.Proofs.Ytaoflcmjmhfblaa.R
open Go.RowKit Go.Proofs.YtaoflcmjmhfblaaW.PrintWords Go.Proofs.YtaoflcmjmhfblaaW.PrintLast Go.Proofs.YtaoflcmjmhfblaaW.PrintMore Go.Proofs.Ytaoflcmjmhfblaa.H Go.Shelf
set_option linter.unusedVariables false
set_option linter.unusedSimpArgs false
def loadC (ls : List Int) (i k : Int) : Int := cmpI (loadI ls i) (loadI ls k)
set_option maxHeartbeats 4000000 in
set_option maxRecDepth 100000 in
theorem load2_reg (g7 g13 : Nat) (i k x1 x2 r : Int) (eg : ∀ args w, (callFunc 134 args).run Try.prog w = .ok (.enter 134 args) w) {Q : Exit → Act → World → Prop} (a0 : Act) (W0 : World) (hs : a0.tmps.size = 13) (hdf : a0.defers = []) (f0 : a0.eval (.tmp 0) = .int .i64 i) (f1 : a0.eval (.tmp 1) = .int .i64 k) (f2 : a0.eval (.tmp 2) = .pointer (some ⟨g13, 0, none⟩)) (h13 : W0.cell? ⟨g13, 0, none⟩ = some (.func (.func 134) #[] #[.pointer (some ⟨g7, 0, none⟩)])) (ki : ∀ W, Bel W0 W → Calls Try.prog 134 (#[.int .i64 i] ++ #[.pointer (some ⟨g7, 0, none⟩)]) W fun e w' => e = .returned (.int .i64 x1) ∧ Bel W w') (kk : ∀ W, Bel W0 W → Calls Try.prog 134 (#[.int .i64 k] ++ #[.pointer (some ⟨g7, 0, none⟩)]) W fun e w' => e = .returned (.int .i64 x2) ∧ Bel W w') (kc : ∀ W, Calls Try.prog 126 #[.int .i64 x1, .int .i64 x2] W fun e w' => e = .returned (.int .i64 r) ∧ Bel W w') (hQ : ∀ W, Bel W0 W → Q .normal (setA a0 [(6, .func (.func 134) #[] #[.pointer (some ⟨g7, 0, none⟩)]), (7, .int .i64 i), (8, .int .i64 x1), (9, .func (.func 134) #[] #[.pointer (some ⟨g7, 0, none⟩)]), (10, .int .i64 k), (11, .int .i64 x2), (12, .int .i64 r), (5, .int .i64 r)]) W) : (Code.region 1 #[{ dst := some 6, op := Op.load 191 (Operand.tmp 2), type := 191, pos := "rank.go:93", after := #[], guard := none }, { dst := some 7, op := Op.move (Operand.tmp 0), type := 3, pos := "rank.go:93", after := #[], guard := none }, { dst := some 8, op := Op.call { callee := Callee.value (Operand.tmp 6), args := #[Operand.tmp 7], argTypes := #[3] }, type := 2, pos := "rank.go:93", after := #[{ on := 0, ground := Ground.data }, { on := 1, ground := Ground.data }], guard := none }, { dst := some 9, op := Op.load 191 (Operand.tmp 2), type := 191, pos := "rank.go:93", after := #[], guard := none }, { dst := some 10, op := Op.move (Operand.tmp 1), type := 3, pos := "rank.go:93", after := #[], guard := none }, { dst := some 11, op := Op.call { callee := Callee.value (Operand.tmp 9), args := #[Operand.tmp 10], argTypes := #[3] }, type := 2, pos := "rank.go:93", after := #[{ on := 3, ground := Ground.data }, { on := 4, ground := Ground.data }, { on := 2, ground := Ground.chain }], guard := none }, { dst := some 12, op := Op.call { callee := Callee.value (Operand.func 126), args := #[Operand.tmp 8, Operand.tmp 11], argTypes := #[2, 2] }, type := 3, pos := "rank.go:93", after := #[{ on := 2, ground := Ground.data }, { on := 5, ground := Ground.data }, { on := 5, ground := Ground.chain }], guard := none }, { dst := some 5, op := Op.assign (Operand.tmp 12), type := 3, pos := "rank.go:93", after := #[{ on := 6, ground := Ground.data }, { on := 6, ground := Ground.chain }, { on := 0, ground := Ground.phase }, { on := 1, ground := Ground.phase }, { on := 2, ground := Ground.phase }, { on := 3, ground := Ground.phase }, { on := 4, ground := Ground.phase }, { on := 5, ground := Ground.phase }, { on := 6, ground := Ground.phase }], guard := none }] true).wp Try.prog Q a0 W0 := by
  refine wp_region_inv_at (by kernel_rfl) (fun a0 L a W => a0.tmps.size = 13 ∧ VInv [(0, 6, .func (.func 134) #[] #[.pointer (some ⟨g7, 0, none⟩)]), (1, 7, .int .i64 i), (2, 8, .int .i64 x1), (3, 9, .func (.func 134) #[] #[.pointer (some ⟨g7, 0, none⟩)]), (4, 10, .int .i64 k), (5, 11, .int .i64 x2), (6, 12, .int .i64 r), (7, 5, .int .i64 r)] [6, 7, 8, 9, 10, 11, 12, 5] a0 L a ∧ ∃ g : Nat, AInvD W0 W) (by kernel_rfl) ⟨hs, VInv.start _ _ _, 0, AInvD.start (Bel.refl _).drew⟩ ?_ ?_
  · intro L i' o a W K hI ho hL hdep0 hK
    obtain ⟨hs, hV, g, hA⟩ := hI
    have e0 := (hV.keep 0 (by decide)).trans f0
    have e1 := (hV.keep 1 (by decide)).trans f1
    have e2 := (hV.keep 2 (by decide)).trans f2
    have hdep := deps o hdep0
    clear hdep0
    match i', ho with
    | 0, ho =>
      simp only [List.getElem?_toArray, List.getElem?_cons_zero, List.getElem?_cons_succ, Option.some.injEq] at ho
      subst ho
      have E2 := e2
      have hcl := (hA.below.cell (World.block_lt_of_cell? _ _ h13)).trans h13
      refine stp1 (v := .func (.func 134) #[] #[.pointer (some ⟨g7, 0, none⟩)]) (w' := W) (.tmp 2) _ rfl E2 (fun ρ hc hρ => by clear hV hK hA; first | (go_simp; done) | (go_simp; rfl)) ?_
      exact hK _ _ ⟨hs, hV.put (by show List.Nodup [0, 1, 2, 3, 4, 5, 6, 7]; decide) (by show List.Nodup [6, 7, 8, 9, 10, 11, 12, 5]; decide) 0 rfl (by decide) (by rw [hs]; decide), g, hA⟩
    | 1, ho =>
      simp only [List.getElem?_toArray, List.getElem?_cons_zero, List.getElem?_cons_succ, Option.some.injEq] at ho
      subst ho
      have E0 := e0
      refine stp_move rfl (by first | exact .inl rfl | exact .inr rfl) ?_
      rw [E0]
      exact hK _ _ ⟨hs, hV.put (by show List.Nodup [0, 1, 2, 3, 4, 5, 6, 7]; decide) (by show List.Nodup [6, 7, 8, 9, 10, 11, 12, 5]; decide) 1 rfl (by decide) (by rw [hs]; decide), g, hA⟩
    | 2, ho =>
      simp only [List.getElem?_toArray, List.getElem?_cons_zero, List.getElem?_cons_succ, Option.some.injEq] at ho
      subst ho
      have E6 := hV.get 0 rfl (hdep 0 (by decide))
      have E7 := hV.get 1 rfl (hdep 1 (by decide))
      refine stp_callv (g := 134) (cap := #[.pointer (some ⟨g7, 0, none⟩)]) rfl eg rfl E6 (args := #[.int .i64 i]) (by simp only [List.map_toArray, List.map_cons, List.map_nil, E7] <;> rfl) ?_
      refine (ki W hA.bel).mono ?_
      rintro e w2 ⟨rfl, hb2⟩
      exact ⟨_, rfl, hK _ _ ⟨hs, hV.put (by show List.Nodup [0, 1, 2, 3, 4, 5, 6, 7]; decide) (by show List.Nodup [6, 7, 8, 9, 10, 11, 12, 5]; decide) 2 rfl (by decide) (by rw [hs]; decide), g, hA.val hb2⟩⟩
    | 3, ho =>
      simp only [List.getElem?_toArray, List.getElem?_cons_zero, List.getElem?_cons_succ, Option.some.injEq] at ho
      subst ho
      have E2 := e2
      have hcl := (hA.below.cell (World.block_lt_of_cell? _ _ h13)).trans h13
      refine stp1 (v := .func (.func 134) #[] #[.pointer (some ⟨g7, 0, none⟩)]) (w' := W) (.tmp 2) _ rfl E2 (fun ρ hc hρ => by clear hV hK hA; first | (go_simp; done) | (go_simp; rfl)) ?_
      exact hK _ _ ⟨hs, hV.put (by show List.Nodup [0, 1, 2, 3, 4, 5, 6, 7]; decide) (by show List.Nodup [6, 7, 8, 9, 10, 11, 12, 5]; decide) 3 rfl (by decide) (by rw [hs]; decide), g, hA⟩
    | 4, ho =>
      simp only [List.getElem?_toArray, List.getElem?_cons_zero, List.getElem?_cons_succ, Option.some.injEq] at ho
      subst ho
      have E1 := e1
      refine stp_move rfl (by first | exact .inl rfl | exact .inr rfl) ?_
      rw [E1]
      exact hK _ _ ⟨hs, hV.put (by show List.Nodup [0, 1, 2, 3, 4, 5, 6, 7]; decide) (by show List.Nodup [6, 7, 8, 9, 10, 11, 12, 5]; decide) 4 rfl (by decide) (by rw [hs]; decide), g, hA⟩
    | 5, ho =>
      simp only [List.getElem?_toArray, List.getElem?_cons_zero, List.getElem?_cons_succ, Option.some.injEq] at ho
      subst ho
      have E9 := hV.get 3 rfl (hdep 3 (by decide))
      have E10 := hV.get 4 rfl (hdep 4 (by decide))
      refine stp_callv (g := 134) (cap := #[.pointer (some ⟨g7, 0, none⟩)]) rfl eg rfl E9 (args := #[.int .i64 k]) (by simp only [List.map_toArray, List.map_cons, List.map_nil, E10] <;> rfl) ?_
      refine (kk W hA.bel).mono ?_
      rintro e w2 ⟨rfl, hb2⟩
      exact ⟨_, rfl, hK _ _ ⟨hs, hV.put (by show List.Nodup [0, 1, 2, 3, 4, 5, 6, 7]; decide) (by show List.Nodup [6, 7, 8, 9, 10, 11, 12, 5]; decide) 5 rfl (by decide) (by rw [hs]; decide), g, hA.val hb2⟩⟩
    | 6, ho =>
      simp only [List.getElem?_toArray, List.getElem?_cons_zero, List.getElem?_cons_succ, Option.some.injEq] at ho
      subst ho
      have E8 := hV.get 2 rfl (hdep 2 (by decide))
      have E11 := hV.get 5 rfl (hdep 5 (by decide))
      refine stp_call rfl Try.func126 (by kernel_rfl) rfl rfl (args := #[.int .i64 x1, .int .i64 x2]) (by simp only [List.map_toArray, List.map_cons, List.map_nil, E8, E11] <;> rfl) ?_
      refine (kc W).mono ?_
      rintro e w2 ⟨rfl, hb2⟩
      exact ⟨_, rfl, hK _ _ ⟨hs, hV.put (by show List.Nodup [0, 1, 2, 3, 4, 5, 6, 7]; decide) (by show List.Nodup [6, 7, 8, 9, 10, 11, 12, 5]; decide) 6 rfl (by decide) (by rw [hs]; decide), g, hA.val hb2⟩⟩
    | 7, ho =>
      simp only [List.getElem?_toArray, List.getElem?_cons_zero, List.getElem?_cons_succ, Option.some.injEq] at ho
      subst ho
      have E12 := hV.get 6 rfl (hdep 6 (by decide))
      refine stp_move rfl (by first | exact .inl rfl | exact .inr rfl) ?_
      rw [E12]
      exact hK _ _ ⟨hs, hV.put (by show List.Nodup [0, 1, 2, 3, 4, 5, 6, 7]; decide) (by show List.Nodup [6, 7, 8, 9, 10, 11, 12, 5]; decide) 7 rfl (by decide) (by rw [hs]; decide), g, hA⟩
    | i' + 8, ho => simp at ho
  · intro L a W hI hall
    obtain ⟨hs', hV, g, hA⟩ := hI
    have ha : a = setA a0 [(6, a.eval (.tmp 6)), (7, a.eval (.tmp 7)), (8, a.eval (.tmp 8)), (9, a.eval (.tmp 9)), (10, a.eval (.tmp 10)), (11, a.eval (.tmp 11)), (12, a.eval (.tmp 12)), (5, a.eval (.tmp 5))] := hV.act (fun k hk => by rw [hs]; simp at hk; omega)
    rw [hV.get 0 rfl (hall 0 (by decide))] at ha
    rw [hV.get 1 rfl (hall 1 (by decide))] at ha
    rw [hV.get 2 rfl (hall 2 (by decide))] at ha
    rw [hV.get 3 rfl (hall 3 (by decide))] at ha
    rw [hV.get 4 rfl (hall 4 (by decide))] at ha
    rw [hV.get 5 rfl (hall 5 (by decide))] at ha
    rw [hV.get 6 rfl (hall 6 (by decide))] at ha
    rw [hV.get 7 rfl (hall 7 (by decide))] at ha
    rw [ha]
    exact hQ W hA.bel
set_option maxHeartbeats 2000000 in
set_option maxRecDepth 100000 in
theorem load2_ord {g7 g13 : Nat} {Al : Option Addr} {cl : Nat} {ls : List Int} {w : World} (hc : w.cell? ⟨g7, 0, none⟩ = some (.slice Al ls.length cl)) (hC : Kd.C (Kd.int .i64) w Al ls.length ls) (hf : w.cell? ⟨g13, 0, none⟩ = some (.func (.func 134) #[] #[.pointer (some ⟨g7, 0, none⟩)])) :
    OrdW Try.prog 136 #[.pointer (some ⟨g13, 0, none⟩)] (loadC ls) (fun i => 0 ≤ i) w := by
  rintro W i k hi hk hW
  have q1 := (hW.cell (World.block_lt_of_cell? _ _ hc)).trans hc
  have q2 := (hW.cell (World.block_lt_of_cell? _ _ hf)).trans hf
  have K1 : ∀ (x : Int), 0 ≤ x → ∀ V, Bel W V → Calls Try.prog 134 (#[.int .i64 x] ++ #[.pointer (some ⟨g7, 0, none⟩)]) V fun e w' => e = .returned (.int .i64 (loadI ls x)) ∧ Bel V w' := fun x hx V hV =>
    (load1_calls x hx V ((hV.1.cell (World.block_lt_of_cell? _ _ q1)).trans q1) (Kd.C_below (Kd.C_below hC hW) hV.1)).mono fun e w' h => ⟨h.1, by rw [← h.2]; exact Bel.refl _⟩
  have KI := Lib.hid (K1 i hi)
  have KK := Lib.hid (K1 k hk)
  unfold loadC
  obtain ⟨a, ha⟩ : ∃ a, loadI ls i = a := ⟨_, rfl⟩
  obtain ⟨b, hb⟩ : ∃ a, loadI ls k = a := ⟨_, rfl⟩
  rw [ha] at KI ⊢
  rw [hb] at KK ⊢
  have KC := Lib.hid (fun V => cmpJ_below a b V)
  obtain ⟨r, hr⟩ : ∃ r, cmpI a b = r := ⟨_, rfl⟩
  rw [hr] at KC ⊢
  have Q2 := Lib.hid q2
  clear hc hC hf hW K1 ha hb hr q1 q2
  have eg := Lib.hid (enters_of Try.func134 (by kernel_rfl) rfl)
  simp only [List.push_toArray, List.append_toArray, List.cons_append, List.nil_append]
  go_enter Try.func136, Try.ntmps136
  go_upto_region 1 with fail
  refine load2_reg g7 g13 i k a b r eg.out _ _ rfl rfl rfl rfl rfl Q2.out KI.out KK.out KC.out ?_
  intro W2 hb
  simp only [put_none_, setA, List.foldl_cons, List.foldl_nil, List.setIfInBounds_toArray, List.set_cons_succ, List.set_cons_zero]
  have HB := Lib.hid hb
  clear hb
  go_wp2_with fail
  go_ret
  exact ⟨rfl, HB.out⟩
end Go.Proofs.Ytaoflcmjmhfblaa.R
/- rank.Pick: the walk. -/
namespace Go.Proofs.Ytaoflcmjmhfblaa.R
open Go.RowKit Go.Proofs.YtaoflcmjmhfblaaW.PrintWords Go.Proofs.YtaoflcmjmhfblaaW.PrintLast Go.Proofs.YtaoflcmjmhfblaaW.PrintMore Go.Proofs.Ytaoflcmjmhfblaa.H Go.Shelf
set_option linter.unusedVariables false
set_option linter.unusedSimpArgs false
/-- How many of the first ones count. -/
def spreadN (sp : Int) (n : Nat) : Nat := (clampI sp 1 n).toNat
/-- The pool that is asked, of an order. -/
def pickP (st sp : Int) (ls L : List Int) : Int := if L = [] then 0 else if st = 2 then minF (loadC ls) (L.take (spreadN sp L.length)) (spreadN sp L.length - 1) else L.getD 0 0
def pickB (L : List Int) : Bool := !L.isEmpty
theorem spread_in {sp : Int} {n : Nat} (h : 1 ≤ n) : 1 ≤ clampI sp 1 n ∧ clampI sp 1 n ≤ n := by
  unfold clampI
  omega
theorem ret_ib {k : IntKind} {a b : Int} {c d : Bool} (h : a = b) (j : c = d) : Ending.returned (.tuple #[.int k a, .bool c]) = .returned (.tuple #[.int k b, .bool d]) := by rw [h, j]
set_option maxHeartbeats 4000000 in
set_option maxRecDepth 100000 in
theorem pick_calls (cs : Array Value) (Ap Aq Al : Option Addr) (cp cq cl : Nat) (st sp : Int) (ps : List PoolV) (qs : List QuoteV) (ls : List Int) (spot : Bool) (now : Int) (w : World)
    (hcf : CfF cs Ap ps.length cp st sp) (hps : Kd.C kPool w Ap ps.length ps) (hqs : Kd.C kQuote w Aq qs.length qs) (hls : Kd.C (Kd.int .i64) w Al ls.length ls) (hsz : ps.length * 40 ≤ 140737488355328) :
    Calls Try.prog 54 #[.agg cs, .slice Aq qs.length cq, .slice Al ls.length cl, .bool spot, .int .u64 now] w fun e w' => ∃ L, e = .returned (.tuple #[.int .i64 (pickP st sp ls L), .bool (pickB L)]) ∧ Below w.heap.size w w' ∧ OrderS st ps qs (opensL ps qs spot now) L := by
  have KO := Lib.hid (show ∀ W, Below w.heap.size w W → _ from fun W hW => order_calls cs Ap Aq cp cq st sp ps qs spot now W hcf (Kd.C_below hps hW) (Kd.C_below hqs hW) hsz)
  have HIN : ∀ L, OrderS st ps qs (opensL ps qs spot now) L → ∀ x ∈ L, 0 ≤ x := fun L hL x hx => by
    have key : ∀ {fs : List (Int → Int → Int)}, SortedL (firstK fs) (opensL ps qs spot now) L → 0 ≤ x := fun h => (opens_in (h.1.mem_iff.1 hx)).1.1
    obtain ⟨h1, h2⟩ := hL
    cases hb : badR ps qs (opensL ps qs spot now)
    · obtain ⟨a1, a2, a3, a4, a5⟩ := h2 hb
      by_cases e1 : st = 1
      · exact key (a1 e1)
      by_cases e2 : st = 2
      · exact key (a2 e2)
      by_cases e3 : st = 3
      · exact key (a3 e3)
      by_cases e4 : st = 4
      · obtain ⟨_, _, _, _, h⟩ := a4 e4
        exact key h
      · rw [a5 e1 e2 e3 e4] at hx; cases hx
    · rw [h1 hb] at hx; cases hx
  have HI := Lib.hid HIN
  obtain ⟨l, hl⟩ : ∃ l, opensL ps qs spot now = l := ⟨_, rfl⟩
  rw [hl] at KO HI ⊢
  have HL := Lib.hid hls
  have HCF := Lib.hid hcf
  obtain ⟨nl, hnl⟩ : ∃ n, ls.length = n := ⟨_, rfl⟩
  obtain ⟨nq, hnq⟩ : ∃ n, qs.length = n := ⟨_, rfl⟩
  obtain ⟨np, hnp⟩ : ∃ n, ps.length = n := ⟨_, rfl⟩
  rw [hnq] at KO
  rw [hnp] at HCF
  rw [hnq, hnl]
  have HNL := Lib.hid hnl
  clear hcf hps hqs hls hsz HIN hl hnl hnq hnp
  go_enter Try.func54, Try.ntmps54
  go_upto_region 1 with fail
  refine gen_w (fun W => W.heap[w.heap.size]? = some (.cells cs 41 (0, 0)) ∧ W.cell? ⟨w.heap.size + 1, 0, none⟩ = some (.slice Al nl cl) ∧ Below w.heap.size w W) ⟨?_, ?_, below_alloc (below_alloc (Below.refl _ _) _) _⟩ ?_
  · exact (Below.heap_alloc _ _ _ (by simp)).trans (heap_alloc_new _ _)
  · have h3 := heap_alloc_new (w.alloc (.cells cs 41 (0, 0))) (.cells #[.slice Al nl cl] 111 (0, 0))
    rw [World.size_alloc] at h3
    exact (blk_cell h3 0).trans rfl
  rintro W ⟨h0, h1, hB⟩
  have H0 := Lib.hid h0
  have HB := Lib.hid hB
  clear h0 hB
  go_upto_region 2 with (first
    | ((with_reducible refine gate_load 41 rfl ?_); refine wpList_load_row rfl 41 _ rfl _ rfl 41 _ _ _ H0.out Try.underlying41 rfl (by rw [HCF.out.size]; kernel_rfl) ?_)
    | (go_at_call 49; refine (KO.out _ HB.out).mono ?_; rintro e w1 ⟨A1, c1, L, rfl, hc1, hC1, hb, hS⟩; have HB1 := Lib.hid (below_step HB.out hb); have H01 := Lib.hid (blk_call hb H0.out); have h11 := (hb.cell (World.block_lt_of_cell? _ _ h1)).trans h1; have HC1 := Lib.hid hC1; have HCC := Lib.hid hc1; have HS := Lib.hid hS; clear hb hC1 hc1 hS))
  clear h1 KO
  have g1 := (blk_cell H01.out 1).trans HCF.out.c1
  have g2 := (blk_cell H01.out 2).trans HCF.out.c2
  obtain ⟨n, hn⟩ : ∃ n, L.length = n := ⟨_, rfl⟩
  rw [hn] at HC1 HCC ⊢
  have HN := Lib.hid hn
  clear hn
  by_cases hz : n = 0
  · subst hz
    have hL : L = [] := List.length_eq_zero_iff.1 HN.out
    go_wp2_with fail
    go_ret2
    refine ⟨L, ?_, HB1.out, HS.out⟩
    subst hL
    rfl
  have hz1 : ((n : Int) == 0) = false := by simpa using hz
  have hm := Kd.C_max HC1.out
  by_cases e2 : st = 2
  · subst e2
    obtain ⟨m, hm'⟩ : ∃ m : Nat, clampI sp 1 n = m := ⟨(clampI sp 1 n).toNat, by have := @spread_in sp n (by omega); omega⟩
    have hmm := @spread_in sp n (by omega)
    rw [hm'] at hmm
    have KC := Lib.hid (fun W => clamp_calls sp 1 n W)
    rw [hm'] at KC
    obtain ⟨is2, his2⟩ : ∃ i, Try.prog.info? 3 = some i := Option.isSome_iff_exists.1 (by kernel_rfl)
    have a1 := cut_to (P := Try.prog) 99 3 .i64 Try.underlying99 his2 A1 n c1 (m : Int) (by omega) (by omega) HCC.out
    rw [Int.toNat_natCast] at a1
    have t1 := HC1.out
    rw [← HN.out] at t1
    have t1 := Kd.C_take (m := m) t1 (by rw [HN.out]; omega)
    have l1 : (L.take m).length = m := by rw [List.length_take, HN.out]; omega
    have L1 := Lib.hid l1
    have KM := Lib.hid (show ∀ W g13, Below w1.heap.size w1 W → W.cell? ⟨g13, 0, none⟩ = some (.func (.func 134) #[] #[.pointer (some ⟨w.heap.size + 1, 0, none⟩)]) → Calls Try.prog 135 #[.slice A1 m c1, .func (.func 136) #[] #[.pointer (some ⟨g13, 0, none⟩)]] W fun e w' => e = .returned (.int .i64 (minF (loadC ls) (L.take m) (m - 1))) ∧ Below W.heap.size W w' from fun W g13 hW hg =>
      minFunc_calls c1 l1 (by omega) (enters_of Try.func136 (by kernel_rfl) rfl) (load2_ord (cl := cl) (by rw [HNL.out]; exact (hW.cell (World.block_lt_of_cell? _ _ h11)).trans h11) (Kd.C_below (Kd.C_below HL.out HB1.out) hW) hg) (fun x hx => HI.out L HS.out x (List.mem_of_mem_take hx)) (by have t2 := Kd.C_below t1 hW; rw [l1] at t2; exact t2))
    have HM := Lib.hid hm'
    clear t1 l1 hm' h11
    go_upto_region 8 with (first
      | (go_at_call 133; refine (KC.out _).mono ?_; rintro e w' ⟨rfl, rfl⟩)
      | ((with_reducible refine gate_storeT 191 rfl ?_); refine bx_store1 rfl 191 (.tmp 13) (.tmp 35) rfl w1.heap.size 0 rfl (.func (.func 134) #[] #[.pointer (some ⟨w.heap.size + 1, 0, none⟩)]) rfl 191 #[Value.nilFunc] (heap_alloc_new _ _) (by kernel_rfl) (by decide) rfl #[.func (.func 134) #[] #[.pointer (some ⟨w.heap.size + 1, 0, none⟩)]] rfl (below_alloc (Below.refl w1.heap.size w1) _) (Nat.le_refl _) ?_; intro W2 hga hsa hoa hb; have HX := Lib.hid ((blk_cell hga 0).trans rfl); have HB2 := Lib.hid hb; clear hga hsa hoa hb))
    clear g1 g2
    go_wp2_with (first
      | (go_at_call 135; refine (KM.out _ _ HB2.out HX.out).mono ?_; rintro e w' ⟨rfl, hb⟩))
    go_ret2
    refine ⟨L, ret_ib ?_ ?_, below_step (below_step HB1.out HB2.out) hb, HS.out⟩
    · have hne : ¬ L = [] := fun e => by rw [e] at HN; exact hz HN.out.symm
      unfold pickP spreadN
      rw [if_neg hne, if_pos rfl, HN.out, HM.out, Int.toNat_natCast]
    · have hne : ¬ L = [] := fun e => by rw [e] at HN; exact hz HN.out.symm
      unfold pickB
      cases L
      · exact absurd rfl hne
      · rfl
  · have e3 : (st != 2) = true := by simpa using e2
    obtain ⟨ad, ea, hc⟩ := loadInt HC1.out 0 (by omega)
    rw [add_zeroA] at hc
    subst ea
    obtain ⟨y, hy⟩ : ∃ y, L.getD 0 0 = y := ⟨_, rfl⟩
    rw [hy] at hc
    have HY := Lib.hid hy
    clear hy
    go_wp2_with fail
    go_ret2
    refine ⟨L, ret_ib ?_ ?_, HB1.out, HS.out⟩
    · have hne : ¬ L = [] := fun e => by rw [e] at HN; exact hz HN.out.symm
      unfold pickP
      rw [if_neg hne, if_neg e2, HY.out]
    · have hne : ¬ L = [] := fun e => by rw [e] at HN; exact hz HN.out.symm
      unfold pickB
      cases L
      · exact absurd rfl hne
      · rfl
end Go.Proofs.Ytaoflcmjmhfblaa.R
