/- Corner: what it tells, bounds. -/
import Derived.Test.YtkeempljogjceaaFr3
namespace Go.Proofs.Ytkeempljogjceaa
open Go.RowKit
namespace Mo
open Fr
theorem cE_cases (n g a : Int) (h : cE n g a = 0) : (n = 0 ∨ n = 1) ∧ inG n g = true ∧ 1 ≤ a ∧ a ≤ 33 := by
  unfold cE at h
  by_cases h1 : n = 0 ∨ n = 1
  · rw [if_pos h1] at h
    by_cases h2 : inG n g = true
    · rw [if_pos h2] at h
      by_cases h3 : a < 1 ∨ 33 < a
      · rw [if_pos h3] at h; omega
      · exact ⟨h1, h2, by omega, by omega⟩
    · rw [if_neg h2] at h; omega
  · rw [if_neg h1] at h; omega
theorem cX_bd (n g a : Int) (h : cE n g a = 0) : 0 ≤ cX n g a ∧ cX n g a + 16 ≤ wV n := by
  obtain ⟨h1, h2, h3, h4⟩ := cE_cases n g a h
  unfold cX
  rw [if_pos h]
  rcases h1 with rfl | rfl
  · rw [if_neg (by decide), show wV 0 = 176 from rfl]; omega
  · have := inG_bd1 h2
    rw [if_pos rfl, show wV 1 = 352 from rfl]; omega
theorem cY_bd (n g a : Int) (h : cE n g a = 0) : 0 ≤ cY n g a ∧ cY n g a + 16 ≤ hV n := by
  obtain ⟨h1, h2, h3, h4⟩ := cE_cases n g a h
  unfold cY
  rw [if_pos h]
  rcases h1 with rfl | rfl
  · rw [show hV 0 = 144 from rfl, inG_0] at *
    simp at h2
    omega
  · have := inG_bd1 h2
    rw [show hV 1 = 288 from rfl]; omega
theorem wh_bd (n : Int) : 0 ≤ wV n ∧ wV n ≤ 352 ∧ 0 ≤ hV n ∧ hV n ≤ 288 := by unfold wV hV; refine ⟨?_, ?_, ?_, ?_⟩ <;> split <;> (try split) <;> omega
end Mo
end Go.Proofs.Ytkeempljogjceaa
