/- conf.lay. -/
import Derived.Test.YtgiokbhedblkfaaCf7
import Derived.Test.YtgiokbhedblkfaaNumB
namespace Go.Proofs.Ytgiokbhedblkfaa.C
open Go.RowKit Go.Proofs.YtgiokbhedblkfaaW.PrintWords Go.Proofs.YtgiokbhedblkfaaW.PrintLast Go.Proofs.YtgiokbhedblkfaaW.PrintMore Go.Proofs.Ytgiokbhedblkfaa.H
set_option linter.unusedVariables false
set_option linter.unusedSimpArgs false
/-- What num.Put gives. -/
def putL (n size : Int) : List Int := if putOk n size then Go.Proofs.Ytgiokbhedblkfaa.H.bytesLE n size.toNat else []
theorem putL_len (n size : Int) : (putL n size).length ≤ 8 := by
  unfold putL
  split
  · rename_i h
    simp only [putOk, Bool.and_eq_true] at h
    rw [bytesLE_length]
    rcases fits_cases h.1 with h | h | h | h <;> rw [h] <;> decide
  · exact Nat.zero_le _
theorem num_put (n size : Int) (h0 : 0 ≤ n) (h1 : n ≤ 18446744073709551615) (w : World) :
    Calls Try.prog 68 #[.int .u64 n, .int .i64 size] w fun e w' => ∃ v e2, e = .returned (.tuple #[v, .int .i64 e2]) ∧ Kd.R (Kd.int .u8) 5 w' w.heap.size (fun _ => True) v (putL n size) ∧ Below w.heap.size w w' := by
  unfold putL
  cases hok : putOk n size with
  | false => exact (put_no n size h0 h1 hok w).mono fun e w' ⟨h, h'⟩ => ⟨_, _, h, by subst h'; exact Kd.R_nil _ _ _ _ _, by subst h'; exact Below.refl _ _⟩
  | true => exact (put_yes n size h0 h1 hok w).mono fun e w' ⟨v, h, h', h''⟩ => ⟨_, _, h, h', h''⟩
/-- What is laid of a field. -/
def Fd.num (f : Fd) : Int := IntKind.u64.wrap (wrap64 (f.val + f.frm))
def Fd.bytes (f : Fd) : List Int := putL f.num f.size
/-- All blocks but those of ok are as they were. -/
def Keeps (ok : Nat → Prop) (w w' : World) : Prop := w.heap.size ≤ w'.heap.size ∧ ∀ k, k < w.heap.size → ¬ ok k → w'.heap[k]? = w.heap[k]?
theorem Keeps.refl (ok : Nat → Prop) (w : World) : Keeps ok w w := ⟨Nat.le_refl _, fun _ _ _ => rfl⟩
theorem Keeps.below {ok : Nat → Prop} {w w1 w2 : World} (h : Keeps ok w w1) (hb : Below w1.heap.size w1 w2) : Keeps ok w w2 :=
  ⟨Nat.le_trans h.1 hb.size, fun k hk hn => (hb.block k (Nat.lt_of_lt_of_le hk h.1)).trans (h.2 k hk hn)⟩
theorem Keeps.grown {ok : Nat → Prop} {w w1 w2 : World} {row : Option Nat} (h : Keeps ok w w1) (hg : w1.grownBy w2 row) (hr : ∀ k, row = some k → ok k) : Keeps ok w w2 :=
  ⟨Nat.le_trans h.1 hg.size, fun k hk hn => (hg.block k (Nat.lt_of_lt_of_le hk h.1) (fun e => hn (hr k e.symm))).trans (h.2 k hk hn)⟩
theorem Keeps.trans {ok : Nat → Prop} {w w1 w2 : World} (h : Keeps ok w w1) (h2 : Keeps ok w1 w2) : Keeps ok w w2 :=
  ⟨Nat.le_trans h.1 h2.1, fun k hk hn => (h2.2 k (Nat.lt_of_lt_of_le hk h.1) hn).trans (h.2 k hk hn)⟩
theorem cell_keep {w w' : World} {p : Addr} (h : w'.heap[p.block]? = w.heap[p.block]?) : w'.cell? p = w.cell? p := by unfold World.cell?; rw [h]
theorem add_block (p : Addr) (j : Nat) : (p.add j).block = p.block := by unfold Addr.add; split <;> rfl
/-- k is none of the blocks of the row, of the boxes, of the numbers. -/
def Far (A : Option Addr) (l : List Fd) (k : Nat) : Prop := (∀ ad, A = some ad → k ≠ ad.block) ∧ ∀ f ∈ l, k ≠ f.g ∧ k ≠ f.p.block
theorem C_keep {α : Type} {d : Kd α} {w w' : World} {A : Option Addr} {n : Nat} {xs : List α} (h : d.C w A n xs) (hK : ∀ x cs, d.K w x cs → d.K w' x cs) (hk : ∀ ad, A = some ad → 0 < n → w'.heap[ad.block]? = w.heap[ad.block]?) : d.C w' A n xs := by
  refine ⟨h.1, h.2.1, fun hn => ?_⟩
  obtain ⟨ad, e, hc⟩ := h.2.2 hn
  refine ⟨ad, e, fun j p hj => ?_⟩
  obtain ⟨c, h1, h2, h3⟩ := hc j p hj
  exact ⟨c, h1, hK _ _ h2, fun i u hu => (cell_keep (by rw [add_block]; exact hk ad e hn)).trans (h3 i u hu)⟩
theorem kFd_lt {w : World} {ad : Addr} {n : Nat} {l : List Fd} (h : Kd.C kFd w (some ad) n l) (hn : 0 < n) : ad.block < w.heap.size := by
  obtain ⟨ad', e, hc⟩ := kFd_C h 0 hn
  cases e
  have := World.block_lt_of_cell? w _ (hc 0 _ rfl)
  rwa [add_block, add_block] at this
theorem Fds_keep {ok : Nat → Prop} {w w' : World} {A : Option Addr} {l : List Fd} (hfar : ∀ k, ok k → Far A l k) (hi : FdsIn w l) (h : Keeps ok w w') : FdsIn w' l := fun f hf => by
  obtain ⟨h1, h2⟩ := hi f hf
  exact ⟨(cell_keep (h.2 _ (World.block_lt_of_cell? w _ h1) (fun hk => ((hfar _ hk).2 f hf).1 rfl))).trans h1, (cell_keep (h.2 _ (World.block_lt_of_cell? w _ h2) (fun hk => ((hfar _ hk).2 f hf).2 rfl))).trans h2⟩
theorem kFd_keep {ok : Nat → Prop} {w w' : World} {A : Option Addr} {n : Nat} {l : List Fd} (hfar : ∀ k, ok k → Far A l k) (hC : Kd.C kFd w A n l) (h : Keeps ok w w') : Kd.C kFd w' A n l :=
  C_keep hC (fun _ _ h => h) (fun ad e hn => by subst e; exact h.2 _ (kFd_lt hC hn) (fun hk => (hfar _ hk).1 ad rfl rfl))
theorem blk_call {w w' : World} {g : Nat} {o : Obj} (hb : Below w.heap.size w w') (h : w.heap[g]? = some o) : w'.heap[g]? = some o := (hb.block _ (blk_lt h)).trans h
theorem blk_cellk {W : World} {g : Nat} {cs : Array Value} {t : TypeId} {fr : Nat × Nat} (h : W.heap[g]? = some (.cells cs t fr)) (j : Nat) {v : Value} (hv : cs[j]? = some v) : W.cell? ⟨g, j, none⟩ = some v := by simp [World.cell?, h, hv]
theorem wu64_lo (n : Int) : 0 ≤ IntKind.u64.wrap n := by rw [IntKind.wrap_u64]; omega
theorem wu64_hi (n : Int) : IntKind.u64.wrap n ≤ 18446744073709551615 := by rw [IntKind.wrap_u64]; omega
theorem Fds_keep1 {ok : Nat → Prop} {w w' : World} {l : List Fd} {y : Fd} (h : Hid (∀ W : World, Keeps ok w W → FdsIn W l)) (hk : Hid (Keeps ok w w')) (hy : Hid (y ∈ l)) : y.Box w' ∧ y.In w' := h.out _ hk.out y hy.out
set_option maxHeartbeats 8000000 in
set_option maxRecDepth 100000 in
theorem lay_calls (w0 w : World) (ok : Nat → Prop) (v : Value) (bs : List Int) (A : Option Addr) (c : Nat) (l : List Fd)
    (hv : Kd.R (Kd.int .u8) 5 w w0.heap.size ok v bs) (hB : Below w0.heap.size w0 w) (hC : Kd.C kFd w A l.length l) (hi : FdsIn w l) (hfar : ∀ k, ok k → Far A l k) (hfresh : ∀ k, w.heap.size ≤ k → ok k) (hsz : bs.length + 8 * l.length ≤ 140737488355328) :
    Calls Try.prog 47 #[v, .slice A l.length c] w fun e w' => ∃ v', e = .returned v' ∧ Kd.R (Kd.int .u8) 5 w' w0.heap.size ok v' (bs ++ l.flatMap Fd.bytes) ∧ Below w0.heap.size w0 w' ∧ Keeps ok w w' := by
  have hm := Kd.C_max hC
  have hlen : ∀ i, ((l.take i).flatMap Fd.bytes).length ≤ 8 * min i l.length := fun i => by
    have key : ∀ (L : List Fd), (L.flatMap Fd.bytes).length ≤ 8 * L.length := fun L => by
      induction L with
      | nil => simp
      | cons x L ih => rw [List.flatMap_cons, List.length_append, List.length_cons]; have : x.bytes.length ≤ 8 := putL_len _ _; omega
    have := key (l.take i)
    rwa [List.length_take] at this
  have htk : ∀ (i : Nat) (y : Fd), l[i]? = some y → bs ++ (l.take (i + 1)).flatMap Fd.bytes = (bs ++ (l.take i).flatMap Fd.bytes) ++ y.bytes := fun i y hy => by
    rw [List.take_add_one, hy, List.flatMap_append, List.append_assoc]; simp
  have hend : l.flatMap Fd.bytes = (l.take l.length).flatMap Fd.bytes := by rw [List.take_length]
  rw [hend]
  have HCC := Lib.hid (fun W (h : Keeps ok w W) => kFd_keep hfar hC h)
  have HII := Lib.hid (fun W (h : Keeps ok w W) => Fds_keep hfar hi h)
  have HF := Lib.hid hfresh
  have HT := Lib.hid htk
  have HL := Lib.hid hlen
  have HV := Lib.hid hv
  have HB0 := Lib.hid hB
  have HSZ := Lib.hid hsz
  obtain ⟨n, hn⟩ : ∃ n, l.length = n := ⟨_, rfl⟩
  have HN := Lib.hid hn
  rw [hn] at HCC HL HSZ hm ⊢
  clear hn hv hB hC hi hfar hfresh hsz hlen htk hend
  go_enter Try.func47, Try.ntmps47
  go_wp2_with (fail)
  go_loopw [0, 11] (fun v0 v11 wr => ∃ (i : Nat), i ≤ n ∧ v11 = .int .i64 i ∧ Hid (Kd.R (Kd.int .u8) 5 wr w0.heap.size ok v0 (bs ++ (l.take i).flatMap Fd.bytes)) ∧ Hid (Below w0.heap.size w0 wr) ∧ Hid (Keeps ok w wr)) (fun _ v11 _ => n - (intOf v11).toNat)
  case atStart => exact ⟨0, Nat.zero_le _, rfl, Lib.hid (by simpa using HV.out), HB0, Lib.hid (Keeps.refl _ _)⟩
  case round =>
    rename_i u0 u11
    clear HV HB0
    obtain ⟨i, hi, rfl, HO, HB, HK⟩ := hrel
    by_cases hlt : i < n
    · have hltz : (i : Int) < (n : Int) := by omega
      have w1e : IntKind.i64.wrap ((i : Int) + 1) = (i : Int) + 1 := by rw [IntKind.wrap_i64]; omega
      obtain ⟨ad, ea, hc⟩ := kFd_C (HCC.out _ HK.out) i hlt
      subst ea
      obtain ⟨y, hy⟩ : ∃ y, l.getD i zFd = y := ⟨_, rfl⟩
      rw [hy] at hc
      have hlz : l[i]? = some y := by rw [← hy, List.getD_eq_getElem?_getD, List.getElem?_eq_getElem (by rw [HN.out]; exact hlt)]; rfl
      have HC1 := Lib.hid hc
      have HTK := Lib.hid (HT.out i y hlz)
      have HYM := Lib.hid (List.mem_of_getElem? hlz)
      obtain ⟨Y, hY⟩ : ∃ Y, bs ++ (l.take i).flatMap Fd.bytes = Y := ⟨_, rfl⟩
      have HYL := Lib.hid (show Y.length + 8 ≤ 140737488355328 by have h1 := HL.out i; have h2 := HSZ.out; rw [← hY, List.length_append]; omega)
      rw [hY] at HO HTK
      have heg := FK.get_enter y.k
      have hgc := fun W h1 h2 => get_calls y W h1 h2
      have hcell : ∀ j v, (#[.func (.func y.k.get) #[] #[.pointer (some ⟨y.g, 0, none⟩)], .func (.func y.k.put) #[] #[.pointer (some ⟨y.g, 0, none⟩)], .int .i64 y.size, .int .i64 y.least, .int .i64 y.most, .int .i64 y.frm, .bool y.k.isT] : Array Value).toList[j]? = some v → wr.cell? ((ad.add (i * 7)).add j) = some v := hc
      obtain ⟨gf, hgf⟩ : ∃ gf, y.k.get = gf := ⟨_, rfl⟩
      obtain ⟨pf, hpf⟩ : ∃ pf, y.k.put = pf := ⟨_, rfl⟩
      obtain ⟨tb, htb⟩ : ∃ tb, y.k.isT = tb := ⟨_, rfl⟩
      rw [hgf, hpf, htb] at hcell
      rw [hgf] at heg hgc
      have HCE := Lib.hid hcell
      have HEG := Lib.hid heg
      have HGC := Lib.hid hgc
      clear hy hlz hc hY hcell HC1 hgf hpf htb hgc heg
      go_upto_region 4 with (first
        | ((with_reducible refine gate_load 108 rfl ?_); refine wpList_load_any rfl 108 _ rfl _ rfl _ _ HCE.out Try.underlying108 rfl (by kernel_rfl) ?_)
        | ((with_reducible refine gate_storeT 108 rfl ?_); refine wpList_store_row rfl 108 _ _ rfl _ _ rfl rfl 108 _ (heap_alloc_new _ _) (by kernel_rfl) rfl (by simp [Value.oneCell']) ?_; rw [setRow_alloc]))
      obtain ⟨gx, hgx⟩ : ∃ gx, wr.heap.size = gx := ⟨_, rfl⟩
      have hba := (Below.refl wr.heap.size wr).alloc (Nat.le_refl _) (.cells #[.func (.func gf) #[] #[.pointer (some ⟨y.g, 0, none⟩)], .func (.func pf) #[] #[.pointer (some ⟨y.g, 0, none⟩)], .int .i64 y.size, .int .i64 y.least, .int .i64 y.most, .int .i64 y.frm, .bool tb] 108 (0, 0))
      have HGa := Lib.hid (blk_call (below_drew (Below.refl _ _)) (heap_alloc_new wr (.cells #[.func (.func gf) #[] #[.pointer (some ⟨y.g, 0, none⟩)], .func (.func pf) #[] #[.pointer (some ⟨y.g, 0, none⟩)], .int .i64 y.size, .int .i64 y.least, .int .i64 y.most, .int .i64 y.frm, .bool tb] 108 (0, 0))))
      have HBa := Lib.hid (below_step (HB.out.alloc HB.out.size (.cells #[.func (.func gf) #[] #[.pointer (some ⟨y.g, 0, none⟩)], .func (.func pf) #[] #[.pointer (some ⟨y.g, 0, none⟩)], .int .i64 y.size, .int .i64 y.least, .int .i64 y.most, .int .i64 y.frm, .bool tb] 108 (0, 0))) (below_drew (Below.refl _ _)))
      have HOa := Lib.hid (Kd.R_drew (Kd.R_alloc HO.out (.cells #[.func (.func gf) #[] #[.pointer (some ⟨y.g, 0, none⟩)], .func (.func pf) #[] #[.pointer (some ⟨y.g, 0, none⟩)], .int .i64 y.size, .int .i64 y.least, .int .i64 y.most, .int .i64 y.frm, .bool tb] 108 (0, 0))))
      have HKa := Lib.hid ((HK.out.below hba).below (below_drew (Below.refl _ _)))
      have hok : ok gx := HF.out _ (by rw [← hgx]; exact HK.out.1)
      rw [hgx] at HGa ⊢
      generalize (wr.alloc (.cells #[.func (.func gf) #[] #[.pointer (some ⟨y.g, 0, none⟩)], .func (.func pf) #[] #[.pointer (some ⟨y.g, 0, none⟩)], .int .i64 y.size, .int .i64 y.least, .int .i64 y.most, .int .i64 y.frm, .bool tb] 108 (0, 0))) = wx at HGa HBa HOa HKa ⊢
      clear hba
      refine start_ (n := 15) (S := fun w' => w'.cell? ⟨gx, 0, none⟩ = some (.func (.func gf) #[] #[.pointer (some ⟨y.g, 0, none⟩)]) ∧ w'.cell? ⟨gx, 2, none⟩ = some (.int .i64 y.size) ∧ w'.cell? ⟨gx, 5, none⟩ = some (.int .i64 y.frm)) (ds := []) #[false, false, false, false, false, false, false, false, false, false, false, false, false, false, false] (by kernel_rfl) rfl rfl ⟨blk_cellk HGa.out 0 rfl, blk_cellk HGa.out 2 rfl, blk_cellk HGa.out 5 rfl⟩ (fun hHeld => ?_)
      generalize wx.drew = Wa at HGa HBa HOa HKa hHeld ⊢
      refine pure_ (i := 0) (N := some 16) (v := ?_) (a' := ?_) #[true, false, false, false, false, false, false, false, false, false, false, false, false, false, false] rfl rfl (by kernel_rfl) (fun _ _ _ h => h) (Or.inl ⟨by rfl, ?_⟩) ?_ ?_
      rotate_left
      · intro w'
        go_simp
        with_reducible rfl
      rotate_left
      · simp only [Act.put, List.setIfInBounds_toArray, List.set_cons_zero, List.set_cons_succ, i64_w, i32_w]
        rfl
      refine pure_ (i := 3) (N := some 19) (v := ?_) (a' := ?_) #[true, false, false, true, false, false, false, false, false, false, false, false, false, false, false] rfl rfl (by kernel_rfl) (fun _ _ _ h => h) (Or.inl ⟨by rfl, ?_⟩) ?_ ?_
      rotate_left
      · intro w'
        go_simp
        with_reducible rfl
      rotate_left
      · simp only [Act.put, List.setIfInBounds_toArray, List.set_cons_zero, List.set_cons_succ, i64_w, i32_w]
        rfl
      refine pure_ (i := 7) (N := some 23) (v := ?_) (a' := ?_) #[true, false, false, true, false, false, false, true, false, false, false, false, false, false, false] rfl rfl (by kernel_rfl) (fun _ _ _ h => h) (Or.inl ⟨by rfl, ?_⟩) ?_ ?_
      rotate_left
      · intro w'
        go_simp
        with_reducible rfl
      rotate_left
      · simp only [Act.put, List.setIfInBounds_toArray, List.set_cons_zero, List.set_cons_succ, i64_w, i32_w]
        rfl
      refine take_ (i := 1) (N := some 17) (v := ?_) (a' := ?_) #[true, true, false, true, false, false, false, true, false, false, false, false, false, false, false] rfl rfl (by kernel_rfl) (fun _ _ _ h => h) (Or.inl ⟨by rfl, ?_⟩) hHeld ?_ ?_
      rotate_left
      · rintro w' ⟨s0, s1, s2⟩
        go_simp
        with_reducible rfl
      rotate_left
      · simp only [Act.put, List.setIfInBounds_toArray, List.set_cons_zero, List.set_cons_succ, i64_w, i32_w]
        rfl
      refine take_ (i := 4) (N := some 20) (v := ?_) (a' := ?_) #[true, true, false, true, true, false, false, true, false, false, false, false, false, false, false] rfl rfl (by kernel_rfl) (fun _ _ _ h => h) (Or.inl ⟨by rfl, ?_⟩) hHeld ?_ ?_
      rotate_left
      · rintro w' ⟨s0, s1, s2⟩
        go_simp
        with_reducible rfl
      rotate_left
      · simp only [Act.put, List.setIfInBounds_toArray, List.set_cons_zero, List.set_cons_succ, i64_w, i32_w]
        rfl
      refine take_ (i := 8) (N := some 24) (v := ?_) (a' := ?_) #[true, true, false, true, true, false, false, true, true, false, false, false, false, false, false] rfl rfl (by kernel_rfl) (fun _ _ _ h => h) (Or.inl ⟨by rfl, ?_⟩) hHeld ?_ ?_
      rotate_left
      · rintro w' ⟨s0, s1, s2⟩
        go_simp
        with_reducible rfl
      rotate_left
      · simp only [Act.put, List.setIfInBounds_toArray, List.set_cons_zero, List.set_cons_succ, i64_w, i32_w]
        rfl
      refine one_ (i := 2) (N := some 18) #[true, true, true, true, true, false, false, true, true, false, false, false, false, false, false] rfl rfl (by kernel_rfl) (by decide) (fun K hK => ?_)
      refine goesV_ (f := gf) HEG.out _ #[.pointer (some ⟨y.g, 0, none⟩)] #[] (by rfl) rfl rfl (by rfl) (by (try simp only [List.map_toArray, List.map_cons, List.map_nil]); first | done | rfl) ?_
      refine (HGC.out _ (Fds_keep1 HII HKa HYM).1 (Fds_keep1 HII HKa HYM).2).mono ?_
      rintro e W2 ⟨rfl, rfl⟩
      refine ⟨_, rfl, ?_⟩
      refine hK.out _ _ (⟨blk_cellk HGa.out 0 rfl, blk_cellk HGa.out 2 rfl, blk_cellk HGa.out 5 rfl⟩) (fun hHeld => ?_)
      clear hK K
      refine norm_ (a' := ?_) ?_ ?_
      rotate_left
      · show Act.put _ (some 18) _ = _
        simp only [Act.put, List.setIfInBounds_toArray, List.set_cons_zero, List.set_cons_succ, i64_w, i32_w]
        rfl
      refine pure_ (i := 5) (N := some 21) (v := ?_) (a' := ?_) #[true, true, true, true, true, true, false, true, true, false, false, false, false, false, false] rfl rfl (by kernel_rfl) (fun _ _ _ h => h) (Or.inl ⟨by rfl, ?_⟩) ?_ ?_
      rotate_left
      · intro w'
        go_simp
        with_reducible rfl
      rotate_left
      · simp only [Act.put, List.setIfInBounds_toArray, List.set_cons_zero, List.set_cons_succ, i64_w, i32_w]
        rfl
      refine pure_ (i := 6) (N := some 22) (v := ?_) (a' := ?_) #[true, true, true, true, true, true, true, true, true, false, false, false, false, false, false] rfl rfl (by kernel_rfl) (fun _ _ _ h => h) (Or.inl ⟨by rfl, ?_⟩) ?_ ?_
      rotate_left
      · intro w'
        go_simp
        with_reducible rfl
      rotate_left
      · simp only [Act.put, List.setIfInBounds_toArray, List.set_cons_zero, List.set_cons_succ, i64_w, i32_w]
        rfl
      refine one_ (i := 9) (N := some 25) #[true, true, true, true, true, true, true, true, true, true, false, false, false, false, false] rfl rfl (by kernel_rfl) (by decide) (fun K hK => ?_)
      refine goes_ Try.func68 (by kernel_rfl) rfl #[.int .u64 y.num, .int .i64 y.size] (by rfl) rfl rfl (by (try simp only [List.map_toArray, List.map_cons, List.map_nil]); first | done | rfl) ?_
      refine (num_put y.num y.size (wu64_lo _) (wu64_hi _) _).mono ?_
      rintro e Wb ⟨vx, e2, rfl, hr, hb⟩
      have HGb := Lib.hid (blk_call hb HGa.out)
      have HBb := Lib.hid (below_step HBa.out hb)
      have HOb := Lib.hid (Kd.R_below HOa.out hb)
      have HKb := Lib.hid (HKa.out.below hb)
      have HR := Lib.hid hr
      clear hr hb
      refine ⟨_, rfl, ?_⟩
      refine hK.out _ _ (⟨blk_cellk HGb.out 0 rfl, blk_cellk HGb.out 2 rfl, blk_cellk HGb.out 5 rfl⟩) (fun hHeld => ?_)
      clear hK K
      refine norm_ (a' := ?_) ?_ ?_
      rotate_left
      · show Act.put _ (some 25) _ = _
        simp only [Act.put, List.setIfInBounds_toArray, List.set_cons_zero, List.set_cons_succ, i64_w, i32_w]
        rfl
      refine pure_ (i := 10) (N := some 15) (v := ?_) (a' := ?_) #[true, true, true, true, true, true, true, true, true, true, true, false, false, false, false] rfl rfl (by kernel_rfl) (fun _ _ _ h => h) (Or.inl ⟨by rfl, ?_⟩) ?_ ?_
      rotate_left
      · intro w'
        go_simp
        with_reducible rfl
      rotate_left
      · simp only [Act.put, List.setIfInBounds_toArray, List.set_cons_zero, List.set_cons_succ, i64_w, i32_w]
        rfl
      refine pure_ (i := 11) (N := some 26) (v := ?_) (a' := ?_) #[true, true, true, true, true, true, true, true, true, true, true, true, false, false, false] rfl rfl (by kernel_rfl) (fun _ _ _ h => h) (Or.inl ⟨by rfl, ?_⟩) ?_ ?_
      rotate_left
      · intro w'
        go_simp
        with_reducible rfl
      rotate_left
      · simp only [Act.put, List.setIfInBounds_toArray, List.set_cons_zero, List.set_cons_succ, i64_w, i32_w]
        rfl
      refine pure_ (i := 12) (N := some 27) (v := ?_) (a' := ?_) #[true, true, true, true, true, true, true, true, true, true, true, true, true, false, false] rfl rfl (by kernel_rfl) (fun _ _ _ h => h) (Or.inl ⟨by rfl, ?_⟩) ?_ ?_
      rotate_left
      · intro w'
        go_simp
        with_reducible rfl
      rotate_left
      · simp only [Act.put, List.setIfInBounds_toArray, List.set_cons_zero, List.set_cons_succ, i64_w, i32_w]
        rfl
      refine pure_ (i := 13) (N := some 7) (v := ?_) (a' := ?_) #[true, true, true, true, true, true, true, true, true, true, true, true, true, true, false] rfl rfl (by kernel_rfl) (fun _ _ _ h => h) (Or.inl ⟨by rfl, ?_⟩) ?_ ?_
      rotate_left
      · intro w'
        go_simp
        with_reducible rfl
      rotate_left
      · simp only [Act.put, List.setIfInBounds_toArray, List.set_cons_zero, List.set_cons_succ, i64_w, i32_w]
        rfl
      refine pure_ (i := 14) (N := some 8) (v := ?_) (a' := ?_) #[true, true, true, true, true, true, true, true, true, true, true, true, true, true, true] rfl rfl (by kernel_rfl) (fun _ _ _ h => h) (Or.inl ⟨by rfl, ?_⟩) ?_ ?_
      rotate_left
      · intro w'
        go_simp
        with_reducible rfl
      rotate_left
      · simp only [Act.put, List.setIfInBounds_toArray, List.set_cons_zero, List.set_cons_succ, i64_w, i32_w]
        rfl
      refine done_ (by kernel_rfl) ?_
      obtain ⟨Ax, cx, rfl, hlx, hCx⟩ := Kd.R_reads HR.out
      have HCX := Lib.hid hCx
      have hYB : y.bytes = putL y.num y.size := rfl
      rw [hYB] at HTK
      have hpl := putL_len y.num y.size
      obtain ⟨X, hX⟩ : ∃ X, putL y.num y.size = X := ⟨_, rfl⟩
      rw [hX] at HTK HCX hpl hlx
      have HHL := Lib.hid (show (Y.length + X.length) * 1 ≤ 140737488355328 by have := HYL.out; omega)
      obtain ⟨m, hxm⟩ : ∃ m, X.length = m := ⟨_, rfl⟩
      have hX2 : Value.slice Ax (putL y.num y.size).length cx = .slice Ax m cx := by rw [hX, hxm]
      rw [hX2]
      rw [hxm] at HCX HHL hlx
      have HIN := Lib.hid hi
      clear hCx hYB hpl hX hX2 hxm hHeld HR HEG HGC
      go_wp2_with (first
        | ((with_reducible refine gate_builtin (b := .append) (xs := #[.tmp 28, .tmp 29]) rfl ?_); at_builtin; refine Kd.R_append_rows (Kd.int .u8) (w0 := w0) w0.heap.size rfl (.tmp 28) (.tmp 29) 33 5 (.int .u8 0) 1 rfl Try.underlying33 info_u8 rfl (by decide) (by decide) u0 Y X Ax m cx ok (fun _ => False) rfl rfl HOb.out HCX.out (fun _ _ h => h) (fun _ h => h.elim) (fun k hk => HF.out k (Nat.le_trans HKb.out.1 hk)) HBb.out HBb.out.size HHL.out ?_; intro v1 w1 ho hb hg hat; have HO5 := Lib.hid ho; have HB5 := Lib.hid hb; have HK5 := Lib.hid (HKb.out.grown hg (fun k hk => HOb.out.1 k hk)); clear ho hb hg hat))
      exact ⟨⟨i + 1, by omega, by go_num, Lib.hid (by rw [HTK.out]; exact HO5.out), HB5, HK5⟩, by simp only [intOf]; omega⟩
    · have hin : i = n := by omega
      subst hin
      go_wp2_with (fail)
      go_ret
      exact ⟨_, rfl, HO.out, HB.out, HK.out⟩
end Go.Proofs.Ytgiokbhedblkfaa.C
