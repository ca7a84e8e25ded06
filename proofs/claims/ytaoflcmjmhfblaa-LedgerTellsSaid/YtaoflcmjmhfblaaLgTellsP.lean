/- Plain law: LedgerTells answers true, with enough fuel. -/
import Derived.Test.YtaoflcmjmhfblaaQ7
import Derived.Test.YtaoflcmjmhfblaaGReqs
namespace Go.Proofs.Ytaoflcmjmhfblaa.Q
open Go.RowKit Go.Proofs.YtaoflcmjmhfblaaW.PrintWords Go.Proofs.YtaoflcmjmhfblaaW.PrintLast Go.Proofs.YtaoflcmjmhfblaaW.PrintMore Go.Proofs.Ytaoflcmjmhfblaa.H Go.Shelf
set_option linter.unusedVariables false
set_option linter.unusedSimpArgs false
/-- With enough fuel it is r. -/
def Ev {α : Type} (f : Nat → Option α) (r : α) : Prop := ∃ k0, ∀ k, k0 ≤ k → f k = some r
theorem Ev.val {α : Type} (r : α) : Ev (fun _ => some r) r := ⟨0, fun _ _ => rfl⟩
theorem Ev.of {α : Type} {f : Nat → Option α} {r : α} (h : ∀ k, f k = some r) : Ev f r := ⟨0, fun k _ => h k⟩
theorem Ev.step {α : Type} {f g : Nat → Option α} {r : α} (h : ∀ k, f (k + 1) = g k) (hg : Ev g r) : Ev f r := by
  obtain ⟨k0, h0⟩ := hg
  refine ⟨k0 + 1, fun k hk => ?_⟩
  obtain ⟨j, rfl⟩ : ∃ j, k = j + 1 := ⟨k - 1, by omega⟩
  rw [h j]
  exact h0 j (by omega)
theorem Ev.bind {α β : Type} {f : Nat → Option α} {h : Nat → α → Option β} {a : α} {r : β} (hf : Ev f a) (hh : Ev (fun k => h k a) r) : Ev (fun k => (f k).bind (h k)) r := by
  obtain ⟨k0, h0⟩ := hf
  obtain ⟨k1, h1⟩ := hh
  refine ⟨max k0 k1, fun k hk => ?_⟩
  show (f k).bind (h k) = some r
  rw [h0 k (by omega), Option.bind_some]
  exact h1 k (by omega)
theorem Ev.one {α : Type} {f : Nat → Option α} {r : α} (h : Ev f r) : ∃ k, f k = some r := by
  obtain ⟨k0, h0⟩ := h
  exact ⟨k0, h0 k0 (Nat.le_refl _)⟩
theorem wrapN (i : Nat) (h : i < 4611686018427387904) : wrap64 ((i : Int) + 1) = ((i + 1 : Nat) : Int) := by unfold wrap64; omega
theorem rd_open {l : List OpenS} {i : Nat} {y : OpenS} (h : l[i]? = some y) : rd_T61 l (i : Int) = y := by
  unfold rd_T61
  rw [Int.toNat_natCast, List.getD_eq_getElem?_getD, h]
  rfl
theorem rd_req {l : List ReqS} {i : Nat} {y : ReqS} (h : l[i]? = some y) : rd_T59 l (i : Int) = y := by
  unfold rd_T59
  rw [Int.toNat_natCast, List.getD_eq_getElem?_getD, h]
  rfl
theorem ev_filter {β : Type} (F : Nat → List β → Int → Option (List β)) (l : List OpenS) (g : OpenS → List β)
    (hstep : ∀ (i : Nat) y out, l[i]? = some y → out.length ≤ i → ∀ k, F (k + 1) out (i : Int) = F k (out ++ g y) ((i + 1 : Nat) : Int))
    (hend : ∀ k out, F (k + 1) out (l.length : Int) = some out) (hg : ∀ y, (g y).length ≤ 1) : ∀ (d i : Nat) (out : List β), i + d = l.length → out.length ≤ i → Ev (fun k => F k out (i : Int)) (out ++ ((l.drop i).map g).flatten)
  | 0, i, out, hi, ho => by
    have e : i = l.length := by omega
    subst e
    refine Ev.step (g := fun _ => some out) (fun k => hend k out) ?_
    rw [List.drop_eq_nil_of_le (Nat.le_refl _)]
    simpa using Ev.val out
  | d + 1, i, out, hi, ho => by
    have hlt : i < l.length := by omega
    have hy : l[i]? = some l[i] := List.getElem?_eq_getElem hlt
    have h1 := hg l[i]
    have ih := ev_filter F l g hstep hend hg d (i + 1) (out ++ g l[i]) (by omega) (by rw [List.length_append]; omega)
    refine Ev.step (g := fun k => F k (out ++ g l[i]) ((i + 1 : Nat) : Int)) (fun k => hstep i _ out hy ho k) ?_
    rw [List.drop_eq_getElem_cons hlt, List.map_cons, List.flatten_cons, ← List.append_assoc]
    exact ih
theorem flat_toks (p : OpenS → Bool) (l : List OpenS) : (l.map (fun y => if p y = true then [y.f0.f1] else [])).flatten = toksL p l := by
  induction l with
  | nil => rfl
  | cons x l ih =>
    rw [List.map_cons, List.flatten_cons, ih]
    unfold toksL
    cases h : p x <;> simp [h]
theorem flat_filter (p : OpenS → Bool) (l : List OpenS) : (l.map (fun y => if p y = true then [y] else [])).flatten = l.filter p := by
  induction l with
  | nil => rfl
  | cons x l ih =>
    rw [List.map_cons, List.flatten_cons, ih]
    cases h : p x <;> simp [h]
theorem about_ref (l : List OpenS) (id : Int) (hl : l.length ≤ 300) : Ev (fun k => cohortref18_About.f k l id) (toksL (isAbout id) l) := by
  have h := ev_filter (fun k out i => cohortref18_About.l0 k l id out i) l (fun y => if isAbout id y = true then [y.f0.f1] else []) (fun i y out hy ho k => by
    have hi : i < l.length := (List.getElem?_eq_some_iff.1 hy).1
    show cohortref18_About.l0 (k + 1) l id out i = cohortref18_About.l0 k l id _ _
    conv => lhs; unfold cohortref18_About.l0
    rw [if_pos (by omega), if_pos (by omega), rd_open hy, wrapN i (by omega)]
    unfold isAbout
    by_cases c1 : y.f0.f0 = 1
    · rw [if_pos c1]; simp [c1]
    · rw [if_neg c1]
      by_cases c2 : y.f0.f4 = id
      · rw [if_pos c2, if_pos (by omega)]; simp [c1, c2]
      · rw [if_neg c2]; simp [c1, c2]) (fun k out => by
    show cohortref18_About.l0 (k + 1) l id out l.length = some out
    unfold cohortref18_About.l0
    rw [if_neg (by omega)]) (fun y => by show (if _ then _ else _ : List Int).length ≤ 1; split <;> simp) l.length 0 [] (by omega) (Nat.zero_le _)
  rw [List.drop_zero, flat_toks, List.nil_append] at h
  exact h
theorem late_ref (l : List OpenS) (now span : Int) (hl : l.length ≤ 300) : Ev (fun k => cohortref18_Late.f k l now span) (toksL (isLate now span) l) := by
  have h := ev_filter (fun k out i => cohortref18_Late.l0 k l now span out i) l (fun y => if isLate now span y = true then [y.f0.f1] else []) (fun i y out hy ho k => by
    have hi : i < l.length := (List.getElem?_eq_some_iff.1 hy).1
    show cohortref18_Late.l0 (k + 1) l now span out i = cohortref18_Late.l0 k l now span _ _
    conv => lhs; unfold cohortref18_Late.l0
    rw [if_pos (by omega), if_pos (by omega), rd_open hy, wrapN i (by omega)]
    unfold isLate
    by_cases c1 : y.f1 ≤ now
    · rw [if_pos c1]
      by_cases c2 : IntKind.u64.wrap (now - y.f1) ≥ span
      · rw [if_pos c2, if_pos (by omega), decide_eq_true c1, decide_eq_true (show span ≤ IntKind.u64.wrap (now - y.f1) from c2)]; rfl
      · rw [if_neg c2, decide_eq_true c1, decide_eq_false (show ¬ span ≤ IntKind.u64.wrap (now - y.f1) from c2)]; simp
    · rw [if_neg c1, decide_eq_false c1]; simp) (fun k out => by
    show cohortref18_Late.l0 (k + 1) l now span out l.length = some out
    unfold cohortref18_Late.l0
    rw [if_neg (by omega)]) (fun y => by show (if _ then _ else _ : List Int).length ≤ 1; split <;> simp) l.length 0 [] (by omega) (Nat.zero_le _)
  rw [List.drop_zero, flat_toks, List.nil_append] at h
  exact h
theorem forget_ref (l : List OpenS) (id : Int) (hl : l.length ≤ 300) : Ev (fun k => cohortref18_Forget.f k l id) (l.filter (fun x => !isAbout id x)) := by
  have h := ev_filter (fun k out i => cohortref18_Forget.l0 k l id out i) l (fun y => if (!isAbout id y) = true then [y] else []) (fun i y out hy ho k => by
    have hi : i < l.length := (List.getElem?_eq_some_iff.1 hy).1
    show cohortref18_Forget.l0 (k + 1) l id out i = cohortref18_Forget.l0 k l id _ _
    conv => lhs; unfold cohortref18_Forget.l0
    rw [if_pos (by omega), if_pos (by omega), rd_open hy, wrapN i (by omega)]
    by_cases c1 : y.f0.f0 = 1
    · have eb : (!isAbout id y) = true := by simp [isAbout, c1]
      rw [if_pos c1, if_pos (by omega), if_pos eb]
    · rw [if_neg c1]
      by_cases c2 : y.f0.f4 = id
      · have eb : ¬ (!isAbout id y) = true := by simp [isAbout, c1, c2]
        rw [if_pos c2, if_neg eb, List.append_nil]
      · have eb : (!isAbout id y) = true := by simp [isAbout, c1, c2]
        rw [if_neg c2, if_pos (by omega), if_pos eb]) (fun k out => by
    show cohortref18_Forget.l0 (k + 1) l id out l.length = some out
    unfold cohortref18_Forget.l0
    rw [if_neg (by omega)]) (fun y => by show (if _ then _ else _ : List OpenS).length ≤ 1; split <;> simp) l.length 0 [] (by omega) (Nat.zero_le _)
  rw [List.drop_zero, flat_filter, List.nil_append] at h
  exact h
theorem insQ_len (x : ReqS) (l : List ReqS) : (insQ x l).length = l.length + 1 := by
  induction l with
  | nil => rfl
  | cons y l ih =>
    unfold insQ
    split
    · rw [List.length_cons, ih, List.length_cons]
    · rfl
theorem req_inner (l : List OpenS) (i : Nat) (y : OpenS) (hy : l[i]? = some y) (out : List ReqS) (hl : l.length ≤ 300) (ho : out.length ≤ 300) (r : List ReqS) : ∀ (d j : Nat), j + d = out.length →
    Ev (fun k => cohortref18_Requests.l0 k l (out.take j ++ insQ y.f0 (out.drop j)) ((i + 1 : Nat) : Int)) r → Ev (fun k => cohortref18_Requests.l1 k l out (i : Int) (j : Int)) r
  | 0, j, hj, h => by
    have e : j = out.length := by omega
    subst e
    have hi : i < l.length := (List.getElem?_eq_some_iff.1 hy).1
    refine Ev.step (g := fun k => cohortref18_Requests.l0 k l (out.take out.length ++ insQ y.f0 (out.drop out.length)) ((i + 1 : Nat) : Int)) (fun k => ?_) h
    show cohortref18_Requests.l1 (k + 1) l out i (out.length : Int) = _
    conv => lhs; unfold cohortref18_Requests.l1
    rw [if_neg (by omega), if_pos (by omega), if_pos (by omega), Option.bind_some, if_pos (by rw [List.length_take]; simp; omega), Option.bind_some, if_pos (by omega), if_pos (by omega), if_pos (by rw [List.length_append, List.length_take]; simp; omega), Option.bind_some, Option.bind_some, if_pos (by simp; omega), rd_open hy, wrapN i (by omega), Int.toNat_natCast]
    rw [List.drop_eq_nil_of_le (Nat.le_refl _)]
    simp [insQ]
  | d + 1, j, hj, h => by
    have hlt : j < out.length := by omega
    have hz : out[j]? = some out[j] := List.getElem?_eq_getElem hlt
    have hi : i < l.length := (List.getElem?_eq_some_iff.1 hy).1
    have hd := List.drop_eq_getElem_cons hlt
    by_cases c : out[j].f1 ≤ y.f0.f1
    · have e : out.take j ++ insQ y.f0 (out.drop j) = out.take (j + 1) ++ insQ y.f0 (out.drop (j + 1)) := by
        rw [hd, insQ, if_pos c, List.take_add_one, hz, List.append_assoc]
        rfl
      rw [e] at h
      have ih := req_inner l i y hy out hl ho r d (j + 1) (by omega) h
      refine Ev.step (g := fun k => cohortref18_Requests.l1 k l out (i : Int) ((j + 1 : Nat) : Int)) (fun k => ?_) ih
      show cohortref18_Requests.l1 (k + 1) l out i (j : Int) = _
      conv => lhs; unfold cohortref18_Requests.l1
      rw [if_pos (by omega), if_pos (by omega), if_pos (by omega), if_pos (by omega), rd_open hy, rd_req hz, if_pos c, wrapN j (by omega)]
    · have e : out.take j ++ insQ y.f0 (out.drop j) = out.take j ++ (y.f0 :: out.drop j) := by rw [hd, insQ, if_neg c]
      rw [e] at h
      refine Ev.step (g := fun k => cohortref18_Requests.l0 k l (out.take j ++ (y.f0 :: out.drop j)) ((i + 1 : Nat) : Int)) (fun k => ?_) h
      show cohortref18_Requests.l1 (k + 1) l out i (j : Int) = _
      conv => lhs; unfold cohortref18_Requests.l1
      rw [if_pos (by omega), if_pos (by omega), if_pos (by omega), if_pos (by omega), rd_open hy, rd_req hz, if_neg c, if_pos (by omega), Option.bind_some, if_pos (by rw [List.length_take]; simp; omega), Option.bind_some, if_pos (by rw [List.length_append, List.length_take]; simp; omega), Option.bind_some, Option.bind_some, if_pos (by simp; omega), wrapN i (by omega), Int.toNat_natCast]
      simp
theorem req_outer (l : List OpenS) (hl : l.length ≤ 300) : ∀ (d i : Nat) (out : List ReqS), i + d = l.length → out.length = i → Ev (fun k => cohortref18_Requests.l0 k l out (i : Int)) ((l.drop i).foldl (fun o x => insQ x.f0 o) out)
  | 0, i, out, hi, ho => by
    refine Ev.step (g := fun _ => some out) (fun k => ?_) ?_
    · show cohortref18_Requests.l0 (k + 1) l out i = some out
      unfold cohortref18_Requests.l0
      rw [if_neg (by omega)]
    · rw [List.drop_eq_nil_of_le (by omega)]
      exact Ev.val out
  | d + 1, i, out, hi, ho => by
    have hlt : i < l.length := by omega
    have hy : l[i]? = some l[i] := List.getElem?_eq_getElem hlt
    have ih := req_outer l hl d (i + 1) (insQ l[i].f0 out) (by omega) (by rw [insQ_len, ho])
    rw [List.drop_eq_getElem_cons hlt, List.foldl_cons]
    refine Ev.step (g := fun k => cohortref18_Requests.l1 k l out (i : Int) ((0 : Nat) : Int)) (fun k => ?_) (req_inner l i _ hy out hl (by omega) _ out.length 0 (by omega) (by simpa using ih))
    show cohortref18_Requests.l0 (k + 1) l out i = cohortref18_Requests.l1 k l out i 0
    conv => lhs; unfold cohortref18_Requests.l0
    rw [if_pos (by omega)]
theorem req_ref (l : List OpenS) (hl : l.length ≤ 300) : Ev (fun k => cohortref18_Requests.f k l) (insL (l.map (fun x => x.f0))) := by
  have h := req_outer l hl l.length 0 [] (by omega) rfl
  rw [List.drop_zero] at h
  have e : insL (l.map (fun x => x.f0)) = l.foldl (fun o x => insQ x.f0 o) [] := by unfold insL; rw [List.foldl_map]
  rw [e]
  exact h
theorem insL_len (xs : List ReqS) : (insL xs).length = xs.length := by
  have h : ∀ (xs out : List ReqS), (xs.foldl (fun out x => insQ x out) out).length = out.length + xs.length := by
    intro xs
    induction xs with
    | nil => intro out; rfl
    | cons x xs ih => intro out; rw [List.foldl_cons, ih, insQ_len, List.length_cons]; omega
  rw [insL, h]; simp
theorem toks_same (a : List Int) (hl : a.length ≤ 300) : Ev (fun k => cohortlaw18_tokens.f k a a) true := by
  have h : ∀ (d i : Nat), i + d = a.length → Ev (fun k => cohortlaw18_tokens.l0 k a a (i : Int)) true := by
    intro d
    induction d with
    | zero =>
      intro i hi
      refine Ev.step (g := fun _ => some true) (fun k => ?_) (Ev.val _)
      show cohortlaw18_tokens.l0 (k + 1) a a i = some true
      unfold cohortlaw18_tokens.l0
      rw [if_neg (by omega)]
    | succ d ih =>
      intro i hi
      refine Ev.step (g := fun k => cohortlaw18_tokens.l0 k a a ((i + 1 : Nat) : Int)) (fun k => ?_) (ih (i + 1) (by omega))
      show cohortlaw18_tokens.l0 (k + 1) a a i = _
      conv => lhs; unfold cohortlaw18_tokens.l0
      rw [if_pos (by omega), if_pos (by omega), if_pos (by omega), if_pos rfl, wrapN i (by omega)]
  unfold cohortlaw18_tokens.f
  simp only [if_true]
  exact h a.length 0 (by omega)
theorem open_same (a : List OpenS) (hl : a.length ≤ 300) : Ev (fun k => cohortref18_Same.f k a a) true := by
  have h : ∀ (d i : Nat), i + d = a.length → Ev (fun k => cohortref18_Same.l0 k a a (i : Int)) true := by
    intro d
    induction d with
    | zero =>
      intro i hi
      refine Ev.step (g := fun _ => some true) (fun k => ?_) (Ev.val _)
      show cohortref18_Same.l0 (k + 1) a a i = some true
      unfold cohortref18_Same.l0
      rw [if_neg (by omega)]
    | succ d ih =>
      intro i hi
      refine Ev.step (g := fun k => cohortref18_Same.l0 k a a ((i + 1 : Nat) : Int)) (fun k => ?_) (ih (i + 1) (by omega))
      show cohortref18_Same.l0 (k + 1) a a i = _
      conv => lhs; unfold cohortref18_Same.l0
      rw [if_pos (by omega), if_pos (by omega), if_pos (by omega), if_neg (by simp), wrapN i (by omega)]
  unfold cohortref18_Same.f
  simp only [if_true]
  exact h a.length 0 (by omega)
set_option maxRecDepth 100000 in
theorem lives18 : cohortlaw18_lives.f = some true := by decide +kernel
theorem toksL_le (p : OpenS → Bool) (l : List OpenS) : (toksL p l).length ≤ l.length := by
  unfold toksL
  rw [List.length_map]
  exact List.length_filter_le _ _
theorem tells_plain (l : List OpenS) (id now span : Int) : ∃ k, cohortlaw18_LedgerTells.f k l id now span = some true := by
  refine Ev.one ?_
  unfold cohortlaw18_LedgerTells.f cohortlaw18_great.f
  by_cases c : l.length ≤ 300
  · have hg : decide ((l.length : Int) > 300) = false := decide_eq_false (by omega)
    have hr : ledger_Requests.f l = some (insL (l.map (fun x => x.f0))) := by unfold ledger_Requests.f; rw [if_pos c]
    have hln : (insL (l.map (fun x => x.f0))).length ≤ 300 := by rw [insL_len, List.length_map]; exact c
    have ha : ledger_About.f l id = some (toksL (isAbout id) l) := by unfold ledger_About.f; rw [if_pos (by omega)]
    have hf : ledger_Forget.f l id = some (l.filter (fun x => !isAbout id x)) := by unfold ledger_Forget.f; rw [if_pos (by omega)]
    have ht : ledger_Late.f l now span = some (toksL (isLate now span) l) := by unfold ledger_Late.f; rw [if_pos (by omega)]
    have l1 := toksL_le (isAbout id) l
    have l2 := toksL_le (isLate now span) l
    have l3 : (l.filter (fun x => !isAbout id x)).length ≤ l.length := List.length_filter_le _ _
    rw [hg, hr]
    simp only [Option.bind_some, Bool.false_eq_true, if_false]
    obtain ⟨X, hX⟩ : ∃ X, insL (l.map (fun x => x.f0)) = X := ⟨_, rfl⟩
    have rr := req_ref l c
    rw [hX] at rr hln ⊢
    clear hX hr
    refine Ev.bind (h := fun k t209 => if (X.length : Int) = (t209.length : Int) then (cohortlaw18_LedgerTells.l0 k l id now span X t209 0) else (some false)) rr ?_
    simp only [if_true]
    have loop : ∀ (d i : Nat), i + d = X.length → Ev (fun k => cohortlaw18_LedgerTells.l0 k l id now span X X (i : Int)) true := by
      intro d
      induction d with
      | zero =>
        intro i hi
        refine Ev.step (g := fun k => (cohortref18_About.f k l id).bind fun t217 => ((cohortlaw18_tokens.f k (toksL (isAbout id) l) t217).bind fun t220 => (if t220 = true then ((cohortref18_Forget.f k l id).bind fun t224 => ((cohortref18_Same.f k (l.filter (fun x => !isAbout id x)) t224).bind fun t227 => (if t227 = true then ((cohortref18_Late.f k l now span).bind fun t231 => ((cohortlaw18_tokens.f k (toksL (isLate now span) l) t231).bind fun t234 => (if t234 = true then (some true) else (some false)))) else (some false)))) else (some false)))) (fun k => ?_) ?_
        · show cohortlaw18_LedgerTells.l0 (k + 1) l id now span X X i = _
          conv => lhs; unfold cohortlaw18_LedgerTells.l0
          rw [if_neg (by omega), ha, hf, ht, lives18]
          rfl
        · refine Ev.bind (h := fun k t217 => (cohortlaw18_tokens.f k (toksL (isAbout id) l) t217).bind fun t220 => (if t220 = true then ((cohortref18_Forget.f k l id).bind fun t224 => ((cohortref18_Same.f k (l.filter (fun x => !isAbout id x)) t224).bind fun t227 => (if t227 = true then ((cohortref18_Late.f k l now span).bind fun t231 => ((cohortlaw18_tokens.f k (toksL (isLate now span) l) t231).bind fun t234 => (if t234 = true then (some true) else (some false)))) else (some false)))) else (some false))) (about_ref l id c) ?_
          refine Ev.bind (h := fun k t220 => if t220 = true then ((cohortref18_Forget.f k l id).bind fun t224 => ((cohortref18_Same.f k (l.filter (fun x => !isAbout id x)) t224).bind fun t227 => (if t227 = true then ((cohortref18_Late.f k l now span).bind fun t231 => ((cohortlaw18_tokens.f k (toksL (isLate now span) l) t231).bind fun t234 => (if t234 = true then (some true) else (some false)))) else (some false)))) else (some false)) (toks_same _ (by omega)) ?_
          simp only [if_true]
          refine Ev.bind (h := fun k t224 => (cohortref18_Same.f k (l.filter (fun x => !isAbout id x)) t224).bind fun t227 => (if t227 = true then ((cohortref18_Late.f k l now span).bind fun t231 => ((cohortlaw18_tokens.f k (toksL (isLate now span) l) t231).bind fun t234 => (if t234 = true then (some true) else (some false)))) else (some false))) (forget_ref l id c) ?_
          refine Ev.bind (h := fun k t227 => if t227 = true then ((cohortref18_Late.f k l now span).bind fun t231 => ((cohortlaw18_tokens.f k (toksL (isLate now span) l) t231).bind fun t234 => (if t234 = true then (some true) else (some false)))) else (some false)) (open_same (l.filter (fun x => !isAbout id x)) (Nat.le_trans l3 c)) ?_
          simp only [if_true]
          refine Ev.bind (h := fun k t231 => (cohortlaw18_tokens.f k (toksL (isLate now span) l) t231).bind fun t234 => (if t234 = true then (some true) else (some false))) (late_ref l now span c) ?_
          refine Ev.bind (h := fun k t234 => if t234 = true then (some true) else (some false)) (toks_same _ (by omega)) ?_
          simp only [if_true]
          exact Ev.val true
      | succ d ih =>
        intro i hi
        refine Ev.step (g := fun k => cohortlaw18_LedgerTells.l0 k l id now span X X ((i + 1 : Nat) : Int)) (fun k => ?_) (ih (i + 1) (by omega))
        show cohortlaw18_LedgerTells.l0 (k + 1) l id now span X X i = _
        conv => lhs; unfold cohortlaw18_LedgerTells.l0
        rw [if_pos (by omega), if_pos (by omega), if_pos (by omega), if_neg (by simp), wrapN i (by omega)]
    exact loop X.length 0 (by omega)
  · have hg : decide ((l.length : Int) > 300) = true := decide_eq_true (by omega)
    rw [hg, lives18]
    exact Ev.val true
end Go.Proofs.Ytaoflcmjmhfblaa.Q
