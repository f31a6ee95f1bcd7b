/- What the functions of the package quant, and the document's, come to at numbers. -/
import Derived.Test.YtpibeocngkjolaaGreatDoorMgPick
import Derived.Test.YtpibeocngkjolaaGreatDoorPlQuant
set_option linter.unusedVariables false
set_option linter.unusedSimpArgs false

namespace Go.Proofs.YtpibeocngkjolaaGreatDoor
open Go.RowKit
namespace Qu

theorem okB_yes {l q : Int} (h : okB l q = true) : (-127 ≤ l ∧ l ≤ 127) ∧ 1 ≤ q ∧ q ≤ 31 := by
  unfold okB at h; simp only [decide_eq_true_eq] at h; omega
theorem okB_no {l q : Int} (h : okB l q = false) : l < -127 ∨ 127 < l ∨ (-127 ≤ l ∧ l ≤ 127 ∧ q < 1) ∨ (-127 ≤ l ∧ l ≤ 127 ∧ 31 < q) := by
  unfold okB at h; simp only [decide_eq_false_iff_not] at h; omega

theorem value_any (n q : Int) (w : World) (h1 : 0 ≤ n) (h2 : n ≤ 127) (h3 : 1 ≤ q) (h4 : q ≤ 31) :
    Calls Tryz.prog 100 #[.int .i64 n, .int .i64 q] w fun e w' => e = .returned (.int .i64 (raw n q)) ∧ Below w.heap.size w w' := by
  obtain ⟨b1, b2⟩ := raw_bd n q h1 h2 h3 h4
  rcases (by omega : q % 2 = 0 ∨ q % 2 = 1) with h5 | h5
  · have hr : q * (2 * n + 1) - 1 = raw n q := by unfold raw; omega
    have HR := Lib.hid hr
    clear hr
    go_enter Tryz.func100, Tryz.ntmps100
    go_wp2
    go_ret
    exact ⟨by simp only [HR.out]; rfl, (Below.refl _ _).alloc (Nat.le_refl _) _⟩
  · have hr : q * (2 * n + 1) = raw n q := by unfold raw; omega
    have HR := Lib.hid hr
    clear hr
    go_enter Tryz.func100, Tryz.ntmps100
    go_wp2
    go_ret
    exact ⟨by simp only [HR.out]; rfl, (Below.refl _ _).alloc (Nat.le_refl _) _⟩

theorem value_no (l q : Int) (w : World) (h : okB l q = false) :
    Calls Tryz.prog 79 #[.int .i64 l, .int .i64 q] w fun e w' => e = .returned (.tuple #[.int .i64 0, .int .i64 3]) ∧ Below w.heap.size w w' := by
  rcases okB_no h with g | g | ⟨g1, g2, g⟩ | ⟨g1, g2, g⟩ <;> clear h
  · have _d : decide (-127 ≤ l) = false := by simp; omega
    go_enter Tryz.func79, Tryz.ntmps79
    go_wp2
    go_ret2
    exact ⟨rfl, Below.refl _ _⟩
  · have _d : decide (l ≤ 127) = false := by simp; omega
    go_enter Tryz.func79, Tryz.ntmps79
    go_wp2
    go_ret2
    exact ⟨rfl, Below.refl _ _⟩
  · have _d : decide (1 ≤ q) = false := by simp; omega
    go_enter Tryz.func79, Tryz.ntmps79
    go_wp2
    go_ret2
    exact ⟨rfl, Below.refl _ _⟩
  · have _d : decide (q ≤ 31) = false := by simp; omega
    go_enter Tryz.func79, Tryz.ntmps79
    go_wp2
    go_ret2
    exact ⟨rfl, Below.refl _ _⟩

theorem value_yes (l q : Int) (w : World) (h : okB l q = true) :
    Calls Tryz.prog 79 #[.int .i64 l, .int .i64 q] w fun e w' => e = .returned (.tuple #[.int .i64 (val l q), .int .i64 0]) ∧ Below w.heap.size w w' := by
  obtain ⟨⟨h1, h2⟩, h3, h4⟩ := okB_yes h
  clear h
  rcases (by omega : 0 < l ∨ l < 0 ∨ l = 0) with h5 | h5 | rfl
  · have hv := val_pos l q h5
    have hp := raw_bd2 l q (by omega) (by omega) h3 h4
    have HV := Lib.hid hv
    clear hv
    go_enter Tryz.func79, Tryz.ntmps79
    go_wp2_with (first | (go_at_call 100; refine (value_any _ _ _ (by omega) (by omega) (by omega) (by omega)).mono ?_; rintro e w1 ⟨rfl, hb⟩) | go_in)
    all_goals
      go_ret2
      exact ⟨ret_two (by rw [HV.out]; omega) rfl, hb⟩
  · have hv := val_neg (-l) q (by omega)
    rw [Int.neg_neg] at hv
    have hp := raw_bd2 (-l) q (by omega) (by omega) h3 h4
    have HV := Lib.hid hv
    clear hv
    go_enter Tryz.func79, Tryz.ntmps79
    go_wp2_with (first | (go_at_call 100; refine (value_any _ _ _ (by omega) (by omega) (by omega) (by omega)).mono ?_; rintro e w1 ⟨rfl, hb⟩) | go_in)
    all_goals
      go_ret2
      exact ⟨ret_two (by rw [HV.out]; omega) rfl, hb⟩
  · go_enter Tryz.func79, Tryz.ntmps79
    go_wp2
    go_ret2
    exact ⟨rfl, Below.refl _ _⟩

theorem vV_yes {l q : Int} (h : okB l q = true) : vV l q = val l q := by unfold vV; rw [h]; rfl
theorem vE_yes {l q : Int} (h : okB l q = true) : vE l q = 0 := by unfold vE; rw [h]; rfl
theorem vV_no {l q : Int} (h : okB l q = false) : vV l q = 0 := by unfold vV; rw [h]; rfl
theorem vE_no {l q : Int} (h : okB l q = false) : vE l q = 3 := by unfold vE; rw [h]; rfl

/-- quant.Value at any numbers. -/
theorem Value_any (l q : Int) (w : World) :
    Calls Tryz.prog 79 #[.int .i64 l, .int .i64 q] w fun e w' => e = .returned (.tuple #[.int .i64 (vV l q), .int .i64 (vE l q)]) ∧ Below w.heap.size w w' := by
  cases h : okB l q
  · rw [vV_no h, vE_no h]; exact value_no l q w h
  · rw [vV_yes h, vE_yes h]; exact value_yes l q w h

/-- the document's Value at any numbers. -/
theorem rvalue_no (l q : Int) (w : World) (h : okB l q = false) :
    Calls Tryz.prog 82 #[.int .i64 l, .int .i64 q] w fun e w' => e = .returned (.tuple #[.int .i64 0, .int .i64 3]) ∧ w = w' := by
  rcases okB_no h with g | g | ⟨g1, g2, g⟩ | ⟨g1, g2, g⟩ <;> clear h
  · have _d : decide (-127 ≤ l) = false := by simp; omega
    go_enter Tryz.func82, Tryz.ntmps82
    go_wp2
    go_ret2
    exact ⟨rfl, rfl⟩
  · have _d : decide (l ≤ 127) = false := by simp; omega
    go_enter Tryz.func82, Tryz.ntmps82
    go_wp2
    go_ret2
    exact ⟨rfl, rfl⟩
  · have _d : decide (1 ≤ q) = false := by simp; omega
    go_enter Tryz.func82, Tryz.ntmps82
    go_wp2
    go_ret2
    exact ⟨rfl, rfl⟩
  · have _d : decide (q ≤ 31) = false := by simp; omega
    go_enter Tryz.func82, Tryz.ntmps82
    go_wp2
    go_ret2
    exact ⟨rfl, rfl⟩
theorem rvalue_yes (l q : Int) (w : World) (h : okB l q = true) :
    Calls Tryz.prog 82 #[.int .i64 l, .int .i64 q] w fun e w' => e = .returned (.tuple #[.int .i64 (val l q), .int .i64 0]) ∧ w = w' := by
  obtain ⟨⟨h1, h2⟩, h3, h4⟩ := okB_yes h
  clear h
  rcases (by omega : 0 < l ∨ l < 0 ∨ l = 0) with h5 | h5 | rfl
  · have hv := val_pos l q h5
    have hp := raw_bd l q (by omega) (by omega) h3 h4
    have hn : (l == 0) = false := by simp; omega
    rcases (by omega : q % 2 = 0 ∨ q % 2 = 1) with h6 | h6
    all_goals
      unfold raw at hv
      have HV := Lib.hid hv
      clear hv
      go_enter Tryz.func82, Tryz.ntmps82
      go_wp2
      all_goals
        go_ret2
        exact ⟨ret_two (by rw [HV.out]; omega) rfl, rfl⟩
  · have hv := val_neg (-l) q (by omega)
    rw [Int.neg_neg] at hv
    have hp := raw_bd (-l) q (by omega) (by omega) h3 h4
    have hn : (l == 0) = false := by simp; omega
    rcases (by omega : q % 2 = 0 ∨ q % 2 = 1) with h6 | h6
    all_goals
      unfold raw at hv
      have HV := Lib.hid hv
      clear hv
      go_enter Tryz.func82, Tryz.ntmps82
      go_wp2
      all_goals
        go_ret2
        exact ⟨ret_two (by rw [HV.out]; omega) rfl, rfl⟩
  · go_enter Tryz.func82, Tryz.ntmps82
    go_wp2
    go_ret2
    exact ⟨rfl, rfl⟩

/-- the document's Value at any numbers. -/
theorem rValue_any (l q : Int) (w : World) :
    Calls Tryz.prog 82 #[.int .i64 l, .int .i64 q] w fun e w' => e = .returned (.tuple #[.int .i64 (vV l q), .int .i64 (vE l q)]) ∧ w = w' := by
  cases h : okB l q
  · rw [vV_no h, vE_no h]; exact rvalue_no l q w h
  · rw [vV_yes h, vE_yes h]; exact rvalue_yes l q w h

theorem dc_cases (c : Int) : (c < 0 ∧ dcV c = 0 ∧ dcE c = 3) ∨ (255 < c ∧ dcV c = 0 ∧ dcE c = 3) ∨ (c = 0 ∧ dcV c = 0 ∧ dcE c = 10) ∨ (c = 128 ∧ dcV c = 0 ∧ dcE c = 10) ∨
    (c = 255 ∧ dcV c = 1024 ∧ dcE c = 0) ∨ (0 < c ∧ c < 255 ∧ c ≠ 128 ∧ dcV c = 8 * c ∧ dcE c = 0) := by
  unfold dcV dcE
  by_cases h1 : c < 0 ∨ 255 < c
  · rw [if_pos h1, if_pos h1]; omega
  · rw [if_neg h1, if_neg h1]
    by_cases h2 : c = 0 ∨ c = 128
    · rw [if_pos h2, if_pos h2]; omega
    · rw [if_neg h2, if_neg h2]
      by_cases h3 : c = 255
      · rw [if_pos h3]; omega
      · rw [if_neg h3]; omega

theorem DC_any (c : Int) (w : World) :
    Calls Tryz.prog 78 #[.int .i64 c] w fun e w' => e = .returned (.tuple #[.int .i64 (dcV c), .int .i64 (dcE c)]) ∧ w = w' := by
  rcases dc_cases c with ⟨h, e1, e2⟩ | ⟨h, e1, e2⟩ | ⟨h, e1, e2⟩ | ⟨h, e1, e2⟩ | ⟨h, e1, e2⟩ | ⟨h, h2, h3, e1, e2⟩
  · rw [e1, e2]; clear e1 e2
    go_enter Tryz.func78, Tryz.ntmps78
    go_wp2
    go_ret2
    exact ⟨rfl, rfl⟩
  · rw [e1, e2]; clear e1 e2
    have _d : decide (c ≤ 255) = false := by simp; omega
    go_enter Tryz.func78, Tryz.ntmps78
    go_wp2
    go_ret2
    exact ⟨rfl, rfl⟩
  · rw [e1, e2]; clear e1 e2
    subst h
    go_enter Tryz.func78, Tryz.ntmps78
    go_wp2
    go_ret2
    exact ⟨rfl, rfl⟩
  · rw [e1, e2]; clear e1 e2
    subst h
    go_enter Tryz.func78, Tryz.ntmps78
    go_wp2
    go_ret2
    exact ⟨rfl, rfl⟩
  · rw [e1, e2]; clear e1 e2
    subst h
    go_enter Tryz.func78, Tryz.ntmps78
    go_wp2
    go_ret2
    exact ⟨rfl, rfl⟩
  · rw [e1, e2]; clear e1 e2
    have k1 : (c == 0) = false := by simp; omega
    have k2 : (c == 128) = false := by simp; omega
    have k3 : (c == 255) = false := by simp; omega
    have _d : decide (c ≤ 255) = true := by simp; omega
    go_enter Tryz.func78, Tryz.ntmps78
    go_wp2
    go_ret2
    exact ⟨rfl, rfl⟩

theorem rDC_any (c : Int) (w : World) :
    Calls Tryz.prog 83 #[.int .i64 c] w fun e w' => e = .returned (.tuple #[.int .i64 (dcV c), .int .i64 (dcE c)]) ∧ w = w' := by
  rcases dc_cases c with ⟨h, e1, e2⟩ | ⟨h, e1, e2⟩ | ⟨h, e1, e2⟩ | ⟨h, e1, e2⟩ | ⟨h, e1, e2⟩ | ⟨h, h2, h3, e1, e2⟩
  · rw [e1, e2]; clear e1 e2
    go_enter Tryz.func83, Tryz.ntmps83
    go_wp2
    go_ret2
    exact ⟨rfl, rfl⟩
  · rw [e1, e2]; clear e1 e2
    go_enter Tryz.func83, Tryz.ntmps83
    go_wp2
    go_ret2
    exact ⟨rfl, rfl⟩
  · rw [e1, e2]; clear e1 e2
    subst h
    go_enter Tryz.func83, Tryz.ntmps83
    go_wp2
    go_ret2
    exact ⟨rfl, rfl⟩
  · rw [e1, e2]; clear e1 e2
    subst h
    go_enter Tryz.func83, Tryz.ntmps83
    go_wp2
    go_ret2
    exact ⟨rfl, rfl⟩
  · rw [e1, e2]; clear e1 e2
    subst h
    go_enter Tryz.func83, Tryz.ntmps83
    go_wp2
    go_ret2
    exact ⟨rfl, rfl⟩
  · rw [e1, e2]; clear e1 e2
    have k1 : (c == 0) = false := by simp; omega
    have k2 : (c == 128) = false := by simp; omega
    have k3 : (c == 255) = false := by simp; omega
    go_enter Tryz.func83, Tryz.ntmps83
    go_wp2
    go_ret2
    exact ⟨rfl, rfl⟩
end Qu
end Go.Proofs.YtpibeocngkjolaaGreatDoor
