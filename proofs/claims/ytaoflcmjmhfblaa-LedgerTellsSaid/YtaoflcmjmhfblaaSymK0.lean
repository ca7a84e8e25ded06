/- The stable sort at elements of kc cells: what a program must lay (made by gen_k.py). -/
import Derived.Test.YtaoflcmjmhfblaaOrder
import Derived.Maps.OwnOps
import Derived.Shelf.SlSortCmp.KitK
namespace Go.Proofs.Ytaoflcmjmhfblaa.HK
open Go.RowKit Go.Proofs.YtaoflcmjmhfblaaW.PrintWords Go.Proofs.YtaoflcmjmhfblaaW.PrintLast Go.Proofs.YtaoflcmjmhfblaaW.PrintMore
open Go.Shelf Go.Sort
set_option linter.unusedVariables false
set_option linter.unusedSimpArgs false

def ren : Go.Shelf.Ren := ⟨fun | 20 => 170 | n => n, fun | 0 => 0 | 3 => 3 | 4 => 4 | 22 => 116 | 24 => 59 | 25 => 195 | n => n, fun | n => n⟩
structure LaysK (P : Program) (kc : Nat) : Prop where
  ins : SlLaysF0.n20 P ren
  fsw : P.funcs[176]? = some Try.f176
  frot : P.funcs[174]? = some Try.f174
  fsym : P.funcs[171]? = some Try.f171
  fst : P.funcs[163]? = some Try.f163
  fss : P.funcs[137]? = some Try.f137
  esw : ∀ args w, (callFunc 176 args).run P w = .ok (.enter 176 args) w
  erot : ∀ args w, (callFunc 174 args).run P w = .ok (.enter 174 args) w
  esym : ∀ args w, (callFunc 171 args).run P w = .ok (.enter 171 args) w
  est : ∀ args w, (callFunc 163 args).run P w = .ok (.enter 163 args) w
  eins : ∀ args w, (callFunc 170 args).run P w = .ok (.enter 170 args) w
  aE : ∀ w, (isAgg 59).run P w = .ok true w
  zE : ∀ w, (Go.sizeOf 59).run P w = .ok kc w
  mixed : P.follows .mixedOrders = true
  t0 : P.underlying 0 = some (TypeDesc.tuple #[])
  a0 : ∀ w, (isAgg 0).run P w = .ok false w
  z0 : ∀ w, (Go.sizeOf 0).run P w = .ok 1 w
  v0 : ∀ w, (zeroValue 0).run P w = .ok (Value.tuple #[]) w
  t3 : P.underlying 3 = some (TypeDesc.int IntKind.i64)
  a3 : ∀ w, (isAgg 3).run P w = .ok false w
  z3 : ∀ w, (Go.sizeOf 3).run P w = .ok 1 w
  v3 : ∀ w, (zeroValue 3).run P w = .ok (Value.int IntKind.i64 0) w
  t4 : P.underlying 4 = some (TypeDesc.bool)
  a4 : ∀ w, (isAgg 4).run P w = .ok false w
  z4 : ∀ w, (Go.sizeOf 4).run P w = .ok 1 w
  v4 : ∀ w, (zeroValue 4).run P w = .ok (Value.bool false) w
  t22 : P.underlying 116 = some (TypeDesc.slice 59)
  a22 : ∀ w, (isAgg 116).run P w = .ok false w
  z22 : ∀ w, (Go.sizeOf 116).run P w = .ok 1 w
  v22 : ∀ w, (zeroValue 116).run P w = .ok (Value.slice none 0 0) w
  t25 : P.underlying 195 = some (TypeDesc.func #[59, 59] #[3] false)
  a25 : ∀ w, (isAgg 195).run P w = .ok false w
  z25 : ∀ w, (Go.sizeOf 195).run P w = .ok 1 w
  v25 : ∀ w, (zeroValue 195).run P w = .ok (Value.nilFunc) w
  tu : P.underlying 207 = some (TypeDesc.int IntKind.u64)
  au : ∀ w, (isAgg 207).run P w = .ok false w
  zu : ∀ w, (Go.sizeOf 207).run P w = .ok 1 w
  vu : ∀ w, (zeroValue 207).run P w = .ok (Value.int IntKind.u64 0) w
theorem lays : LaysK Try.prog 5 := {
  ins := {
    mixed := by kernel_rfl
    f20 := ⟨Try.f170.name, by decide, Try.func170.trans (congrArg some (by kernel_rfl))⟩
    t0 := Try.underlying0
    a0 := Try.isAgg0
    z0 := Try.sizeOf0
    v0 := Try.zeroValue0
    t3 := Try.underlying3
    a3 := Try.isAgg3
    z3 := Try.sizeOf3
    v3 := Try.zeroValue3
    t4 := Try.underlying4
    a4 := Try.isAgg4
    z4 := Try.sizeOf4
    v4 := Try.zeroValue4
    t22 := Try.underlying116
    a22 := Try.isAgg116
    z22 := Try.sizeOf116
    v22 := Try.zeroValue116
    t25 := Try.underlying195
    a25 := Try.isAgg195
    z25 := Try.sizeOf195
    v25 := Try.zeroValue195
  }
  fsw := Try.func176
  frot := Try.func174
  fsym := Try.func171
  fst := Try.func163
  fss := Try.func137
  esw := (show Bears Try.prog 176 Try.f176 from ⟨Try.f176.name, by decide, Try.func176.trans (congrArg some (by kernel_rfl))⟩).enters rfl
  erot := (show Bears Try.prog 174 Try.f174 from ⟨Try.f174.name, by decide, Try.func174.trans (congrArg some (by kernel_rfl))⟩).enters rfl
  esym := (show Bears Try.prog 171 Try.f171 from ⟨Try.f171.name, by decide, Try.func171.trans (congrArg some (by kernel_rfl))⟩).enters rfl
  est := (show Bears Try.prog 163 Try.f163 from ⟨Try.f163.name, by decide, Try.func163.trans (congrArg some (by kernel_rfl))⟩).enters rfl
  eins := (show Bears Try.prog 170 Try.f170 from ⟨Try.f170.name, by decide, Try.func170.trans (congrArg some (by kernel_rfl))⟩).enters rfl
  aE := Try.isAgg59
  zE := Try.sizeOf59
  mixed := by kernel_rfl
  t0 := Try.underlying0
  a0 := Try.isAgg0
  z0 := Try.sizeOf0
  v0 := Try.zeroValue0
  t3 := Try.underlying3
  a3 := Try.isAgg3
  z3 := Try.sizeOf3
  v3 := Try.zeroValue3
  t4 := Try.underlying4
  a4 := Try.isAgg4
  z4 := Try.sizeOf4
  v4 := Try.zeroValue4
  t22 := Try.underlying116
  a22 := Try.isAgg116
  z22 := Try.sizeOf116
  v22 := Try.zeroValue116
  t25 := Try.underlying195
  a25 := Try.isAgg195
  z25 := Try.sizeOf195
  v25 := Try.zeroValue195
  tu := Try.underlying207
  au := Try.isAgg207
  zu := Try.sizeOf207
  vu := Try.zeroValue207 }

variable {Pg : Program} {α : Type} [Inhabited α] {kc : Nat}
theorem insInner_size (lt : α → α → Bool) (a : Nat) (d : Array α) (j : Nat) : (insInner lt a j d).size = d.size := by
  induction j generalizing d with
  | zero => rw [insInner]
  | succ j ih =>
    rw [insInner]
    split
    · rw [ih, size_swp]
    · rfl
theorem insOuter_size (lt : α → α → Bool) (a b : Nat) (f i : Nat) (d : Array α) (hf : b - i ≤ f) : (insOuter lt a b i d).size = d.size := by
  induction f generalizing i d with
  | zero => rw [insOuter_stop _ _ _ _ _ (by omega)]
  | succ f ih =>
    by_cases c : i < b
    · rw [insOuter_go _ _ _ _ _ c, ih _ _ (by omega), insInner_size]
    · rw [insOuter_stop _ _ _ _ _ c]
theorem ins_s (LL : LaysK Pg kc) (enc : α → List Value) (cf : α → α → Int) (g : Nat) (cb : Array Value) (blk off cap a b : Nat) (d0 d : Array α) (w0 w : World)
    (eg : ∀ args w, (callFunc g args).run Pg w = .ok (.enter g args) w) (hcmp : CmpLays Pg g cb enc kc cf blk off d0.size w0) (R : RowK enc kc w0 blk off d0) (hs : d0.size = d.size) (S : SWK enc kc w0 blk off d w) (hab : a ≤ b) (hb : b ≤ d.size) (hsz : d.size < 4611686018427387904) :
    Calls Pg 170 #[.slice (some ⟨blk, off, none⟩) d.size cap, .int .i64 a, .int .i64 b, .func (.func g) #[] cb] w fun e w' => e = .returned (.tuple #[]) ∧ SWK enc kc w0 blk off (insertionSort (ltOf cf) d a b) w' := by
  have hC : CmpLays Pg g cb enc kc cf blk off d.size w := fun m os dk hdk x y => by
    obtain ⟨n', os', h⟩ := S.on R.hblk m dk os hdk
    rw [h]
    exact hcmp n' os' dk (by omega) x y
  refine (AnyQ.insertionSortCmpFunc LL.ins kc LL.aE LL.zE enc R.hk R.h1 cf g cb blk off cap a b d w eg hC (S.holds R.hblk R.hH hs.symm) (S.lt R.hblk) hab hb hsz).mono ?_
  rintro e w' ⟨he, n, os, hw⟩
  exact ⟨he, by rw [hw]; exact S.on R.hblk n _ os (by exact insOuter_size _ _ _ _ _ _ (Nat.le_refl _))⟩
end Go.Proofs.Ytaoflcmjmhfblaa.HK
