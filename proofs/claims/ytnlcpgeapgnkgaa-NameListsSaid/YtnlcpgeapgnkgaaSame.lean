/- Texts and Ints of the document's helpers: the same list twice is the same. -/
import Derived.Test.YtnlcpgeapgnkgaaBase
import Derived.Test.YtnlcpgeapgnkgaaWMore
namespace Go.Proofs.Ytnlcpgeapgnkgaa.H
open Go.RowKit Go.Proofs.YtnlcpgeapgnkgaaW.PrintWords Go.Proofs.YtnlcpgeapgnkgaaW.PrintLast Go.Proofs.YtnlcpgeapgnkgaaW.PrintMore
set_option linter.unusedVariables false
set_option linter.unusedSimpArgs false

theorem drewN_cell (w : World) (n : Nat) (a : Addr) : (w.drewN n).cell? a = w.cell? a := rfl
set_option maxRecDepth 100000 in
theorem texts_calls (A B : Option Addr) (c d n : Nat) (l : List ByteArray) (w : World) (hA : Kd.C Kd.string w A n l) (hB : Kd.C Kd.string w B n l) :
    Calls Try.prog 24 #[.slice A n c, .slice B n d] w fun e w' => e = .returned (.bool true) ∧ ∃ q, w' = w.drewN q := by
  have hm := Kd.C_max hA
  have HA := Lib.hid hA
  have HB := Lib.hid hB
  clear hA hB
  have mixed : Try.prog.follows .mixedOrders = true := by kernel_rfl
  go_enter Try.func24, Try.ntmps24
  go_wp2_with (fail)
  go_loopw [5] (fun v5 wr => ∃ i q : Nat, i ≤ n ∧ v5 = .int .i64 i ∧ wr = w.drewN q) (fun v5 _ => n - (intOf v5).toNat)
  case atStart => exact ⟨0, 0, by omega, rfl, rfl⟩
  case round =>
    obtain ⟨i, q, hi, rfl, rfl⟩ := hrel
    by_cases hlt : i < n
    · obtain ⟨ad, ea, x1⟩ := Kd.at_string (Kd.C_drewN HA.out q) (i : Int) (by omega) (by omega)
      obtain ⟨bd, eb, x2⟩ := Kd.at_string (Kd.C_drewN HB.out q) (i : Int) (by omega) (by omega)
      subst ea eb
      rw [Int.toNat_natCast] at x1 x2
      obtain ⟨x, hx⟩ : ∃ x, rdOf ByteArray.empty l (i : Int) = x := ⟨_, rfl⟩
      rw [hx] at x1 x2
      clear hx
      have z1 : w.cell? (ad.add i) = some (.string x) := x1
      have z2 : w.cell? (bd.add i) = some (.string x) := x2
      have y1 : ∀ k, ((w.drewN q).drewN k).cell? (ad.add i) = some (.string x) := fun k => x1
      have y2 : ∀ k, ((w.drewN q).drewN k).cell? (bd.add i) = some (.string x) := fun k => x2
      go_wp2_with (fail)
      go_region
      go_wp2_with (fail)
      exact ⟨⟨i + 1, q + 1, by omega, by go_num, rfl⟩, by simp only [intOf]; omega⟩
    · have : i = n := by omega
      subst this
      go_wp2_with (fail)
      go_ret
      exact ⟨rfl, q, rfl⟩
set_option maxRecDepth 100000 in
theorem ints_calls (A B : Option Addr) (c d n : Nat) (l : List Int) (w : World) (hA : Kd.C (Kd.int .i64) w A n l) (hB : Kd.C (Kd.int .i64) w B n l) :
    Calls Try.prog 25 #[.slice A n c, .slice B n d] w fun e w' => e = .returned (.bool true) ∧ ∃ q, w' = w.drewN q := by
  have hm := Kd.C_max hA
  have HA := Lib.hid hA
  have HB := Lib.hid hB
  clear hA hB
  have mixed : Try.prog.follows .mixedOrders = true := by kernel_rfl
  go_enter Try.func25, Try.ntmps25
  go_wp2_with (fail)
  go_loopw [5] (fun v5 wr => ∃ i q : Nat, i ≤ n ∧ v5 = .int .i64 i ∧ wr = w.drewN q) (fun v5 _ => n - (intOf v5).toNat)
  case atStart => exact ⟨0, 0, by omega, rfl, rfl⟩
  case round =>
    obtain ⟨i, q, hi, rfl, rfl⟩ := hrel
    by_cases hlt : i < n
    · obtain ⟨ad, ea, x1⟩ := Kd.at_int (Kd.C_drewN HA.out q) (i : Int) (by omega) (by omega)
      obtain ⟨bd, eb, x2⟩ := Kd.at_int (Kd.C_drewN HB.out q) (i : Int) (by omega) (by omega)
      subst ea eb
      rw [Int.toNat_natCast] at x1 x2
      obtain ⟨x, hx⟩ : ∃ x, rd l (i : Int) = x := ⟨_, rfl⟩
      rw [hx] at x1 x2
      clear hx
      have z1 : w.cell? (ad.add i) = some (.int .i64 x) := x1
      have z2 : w.cell? (bd.add i) = some (.int .i64 x) := x2
      have y1 : ∀ k, ((w.drewN q).drewN k).cell? (ad.add i) = some (.int .i64 x) := fun k => x1
      have y2 : ∀ k, ((w.drewN q).drewN k).cell? (bd.add i) = some (.int .i64 x) := fun k => x2
      go_wp2_with (fail)
      go_region
      go_wp2_with (fail)
      exact ⟨⟨i + 1, q + 1, by omega, by go_num, rfl⟩, by simp only [intOf]; omega⟩
    · have : i = n := by omega
      subst this
      go_wp2_with (fail)
      go_ret
      exact ⟨rfl, q, rfl⟩
end Go.Proofs.Ytnlcpgeapgnkgaa.H
