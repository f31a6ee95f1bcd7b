/- Pick: one of the numbers from 0 on below n. -/
import Derived.Test.YteigdcbaojmfgaaDoorKit
namespace Go.Proofs.YteigdcbaojmfgaaDoor
open Go.RowKit
set_option linter.unusedSimpArgs false
set_option linter.unusedVariables false

theorem tmod_facts (x n : Int) (h : 0 < n) : (-n < x.tmod n ∧ x.tmod n < n) ∧ (0 ≤ x → x.tmod n = x % n) ∧ (x < 0 → x.tmod n ≤ 0) ∧ (x.tmod n < 0 → x.tmod n + n = x % n) ∧ (¬ x.tmod n < 0 → x.tmod n = x % n) := by
  have h1 := Int.tmod_lt_of_pos x h
  have h2 := Int.lt_tmod_of_pos x h
  have e := @Int.tmod_eq_emod x n
  have m1 := Int.emod_nonneg x (show n ≠ 0 by omega)
  have m2 := Int.emod_lt_of_pos x h
  by_cases hx : 0 ≤ x
  · rw [Int.tmod_eq_emod_of_nonneg hx] at *; omega
  · by_cases hd : n ∣ x
    · have := Int.emod_eq_zero_of_dvd hd
      have := Int.tmod_eq_zero_of_dvd hd
      omega
    · simp [hx, hd] at e
      omega

theorem Pick_any (x n : Int) (w : World) (h : 0 < n) (h2 : n ≤ 1000000000000) :
    Calls Tryd.prog 36 #[.int .i64 x, .int .i64 n] w fun e w' => e = .returned (.int .i64 (x % n)) ∧ w = w' := by
  obtain ⟨f0, f1, f2, f3, f4⟩ := tmod_facts x n h
  have F1 := Lib.hid f1
  have F3 := Lib.hid f3
  have F4 := Lib.hid f4
  clear f1 f3 f4
  have hnz : (n == 0) = false := by simp; omega
  have m1 := Int.emod_nonneg x (show n ≠ 0 by omega)
  by_cases hx : 0 ≤ x
  · go_enter Tryd.func36, Tryd.ntmps36
    go_wp2
    go_ret
    exact ⟨rfl, rfl⟩
  · have hx' : x < 0 := by omega
    have f2' := f2 hx'
    clear hx f2
    by_cases hc : x.tmod n < 0
    · have HF := F3.out hc
      go_enter Tryd.func36, Tryd.ntmps36
      go_wp2
      go_ret
      exact ⟨rfl, rfl⟩
    · have HF := F4.out hc
      go_enter Tryd.func36, Tryd.ntmps36
      go_wp2
      go_ret
      exact ⟨rfl, rfl⟩
end Go.Proofs.YteigdcbaojmfgaaDoor
