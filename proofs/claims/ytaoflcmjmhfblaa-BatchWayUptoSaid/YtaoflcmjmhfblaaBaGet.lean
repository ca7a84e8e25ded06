/- batch.Get. -/
import Derived.Test.YtaoflcmjmhfblaaBaChg
namespace Go.Proofs.Ytaoflcmjmhfblaa.D
open Go.RowKit Go.Proofs.YtaoflcmjmhfblaaW.PrintWords Go.Proofs.YtaoflcmjmhfblaaW.PrintLast Go.Proofs.YtaoflcmjmhfblaaW.PrintMore Go.Proofs.Ytaoflcmjmhfblaa.H Go.Shelf
attribute [local go_sem] max2_int min2_int max_two min_two
set_option linter.unusedVariables false
set_option linter.unusedSimpArgs false
theorem chgR_err {rest : List Int} {c : Int} (h : chgR rest = .error c) : c = 3 ∨ c = 4 ∨ c = 5 := by
  obtain ⟨r1, r2, r3, r4, n, g, m, _, _, _, _, _, _, _, eo⟩ := chgR_P rest
  rw [eo] at h
  clear eo
  unfold chgP at h
  repeat' (split at h)
  all_goals first | (injection h with h; omega) | (injection h)
/-- What a change leaves is of the same bytes, and less. -/
theorem chgR_ok {rest : List Int} {x : ChgS} {r : List Int} (h : chgR rest = .ok (x, r)) : (∃ j, r = rest.drop j) ∧ r.length + 2 ≤ rest.length := by
  obtain ⟨r1, r2, r3, r4, n, g, m, e1, _, e2, _, e3, _, e4, eo⟩ := chgR_P rest
  rw [eo] at h
  clear eo
  have d2 : r2 = rest.drop (1 + n) := by rw [← e2, ← e1, List.drop_drop]
  have d3 : r3 = rest.drop (1 + n + 1) := by rw [← e3, d2, List.drop_drop]
  have d4 : r4 = rest.drop (1 + n + 1 + 4) := by rw [← e4, d3, List.drop_drop]
  have l2 : r2.length = rest.length - (1 + n) := by rw [d2, List.length_drop]
  have l3 : r3.length = rest.length - (1 + n + 1) := by rw [d3, List.length_drop]
  have l4 : r4.length = rest.length - (1 + n + 1 + 4) := by rw [d4, List.length_drop]
  unfold chgP at h
  split at h; · cases h
  split at h; · cases h
  split at h; · cases h
  split at h; · cases h
  split at h
  · injection h with h
    simp only [Prod.mk.injEq] at h
    obtain ⟨_, rfl⟩ := h
    exact ⟨⟨_, d3⟩, by omega⟩
  split at h; · cases h
  split at h; · cases h
  split at h; · cases h
  · injection h with h
    simp only [Prod.mk.injEq] at h
    obtain ⟨_, rfl⟩ := h
    refine ⟨⟨_, by rw [d4, List.drop_drop]⟩, by rw [List.length_drop]; omega⟩
/-- The changes of a batch, so many. -/
def getLoop : Nat → List Int → List ChgS → List ChgS × Int
  | 0, rest, acc => if 0 < rest.length then ([], 5) else (acc, 0)
  | k + 1, rest, acc =>
    match chgR rest with
    | .error c => ([], c)
    | .ok (x, r) => if mayC ((acc ++ [x]).drop (acc.length + 1 - 2)) then getLoop k r (acc ++ [x]) else ([], 5)
def getL (l : List Int) : List ChgS × Int := if l.length < 4 then ([], 4) else getLoop (valLE (l.take 4)).toNat (l.drop 4) []
instance (l : List Int) : Decidable (Bytes l) := by unfold Bytes; infer_instance
def batch_Get.f (l0 : List Int) : Option (List ChgS × Int) := if Bytes l0 ∧ (l0.length + 1) * 48 ≤ 140737488355328 then some (getL l0) else none
theorem k96_of {w : World} {base : Nat} {ok : Nat → Prop} {x : ChgS} {v1 : Value} (h : (Kd.int .u8).R 5 w base ok v1 x.f1) : kChg.M w base ok x [.string x.f0, v1, .bool x.f2] := k96_mkM w base ok x h
end Go.Proofs.Ytaoflcmjmhfblaa.D
