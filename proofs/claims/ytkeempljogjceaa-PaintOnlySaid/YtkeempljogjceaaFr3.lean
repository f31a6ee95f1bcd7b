/- frame: Corner. -/
import Derived.Test.YtkeempljogjceaaFr2
namespace Go.Proofs.Ytkeempljogjceaa
open Go.RowKit
namespace Fr

theorem inG_bd0 {g : Int} (h : inG 0 g = true) : 1 ≤ g ∧ g ≤ 12 := by rw [inG_0] at h; simp at h; omega
theorem inG_bd1 {g : Int} (h : inG 1 g = true) : 1 ≤ g ∧ g ≤ 12 := by rw [inG_1] at h; simp at h; omega

theorem Corner_0 (g a : Int) (w : World) : Calls Try.prog 43 #[.int .i64 0, .int .i64 g, .int .i64 a] w fun e w' => e = .returned (.tuple #[.int .i64 (cX 0 g a), .int .i64 (cY 0 g a), .int .i64 (cE 0 g a)]) ∧ Below w.heap.size w w' := by
  by_cases hg : inG 0 g = true
  · have gb := inG_bd0 hg
    have HG := Lib.hid hg
    have HC : Hid (decide (0 ≤ ixF (grF 0) g 3) = true) := Lib.hid hg
    clear hg
    by_cases ha : a < 1 ∨ 33 < a
    · have E : Hid (cE 0 g a = 13) := Lib.hid (by unfold cE; rw [if_pos (by decide), if_pos HG.out, if_pos ha])
      have E2 : Hid (cX 0 g a = 0 ∧ cY 0 g a = 0) := Lib.hid (by unfold cX cY; rw [E.out]; exact ⟨rfl, rfl⟩)
      rcases ha with ha | ha
      · go_enter Try.func43, Try.ntmps43
        go_wp2_with (first
          | (go_at_call 57; refine (Groups_any 0 _).mono ?_; rintro e w1 ⟨v, rfl, hR, hB⟩; rw [show fE 0 = 0 from rfl]; have HR := Lib.hid hR; have HB := Lib.hid hB; clear hR hB)
          | (go_at_call 58; refine (Contains_any _ 3 (grF 0) g _ HR.out.sl (by omega)).mono ?_; rintro e w2 ⟨rfl, rfl⟩; rw [HC.out]))
        go_ret3
        exact ⟨by rw [E.out, E2.out.1, E2.out.2]; rfl, HB.out⟩
      · have ha0 : ¬ a < 1 := by omega
        go_enter Try.func43, Try.ntmps43
        go_wp2_with (first
          | (go_at_call 57; refine (Groups_any 0 _).mono ?_; rintro e w1 ⟨v, rfl, hR, hB⟩; rw [show fE 0 = 0 from rfl]; have HR := Lib.hid hR; have HB := Lib.hid hB; clear hR hB)
          | (go_at_call 58; refine (Contains_any _ 3 (grF 0) g _ HR.out.sl (by omega)).mono ?_; rintro e w2 ⟨rfl, rfl⟩; rw [HC.out]))
        go_ret3
        exact ⟨by rw [E.out, E2.out.1, E2.out.2]; rfl, HB.out⟩
    · have ab : 1 ≤ a ∧ a ≤ 33 := by omega
      have E : Hid (cE 0 g a = 0) := Lib.hid (by unfold cE; rw [if_pos (by decide), if_pos HG.out, if_neg ha])
      have E2 : Hid (cX 0 g a = (a - 1) % 11 * 16 ∧ cY 0 g a = (a - 1) / 11 * 16 + (g - 1) / 2 * 48) := Lib.hid (by unfold cX cY; rw [E.out, if_pos rfl, if_pos rfl]; rw [if_neg (by decide)]; exact ⟨by omega, rfl⟩)
      clear ha
      go_enter Try.func43, Try.ntmps43
      go_wp2_with (first
        | (go_at_call 57; refine (Groups_any 0 _).mono ?_; rintro e w1 ⟨v, rfl, hR, hB⟩; rw [show fE 0 = 0 from rfl]; have HR := Lib.hid hR; have HB := Lib.hid hB; clear hR hB)
        | (go_at_call 58; refine (Contains_any _ 3 (grF 0) g _ HR.out.sl (by omega)).mono ?_; rintro e w2 ⟨rfl, rfl⟩; rw [HC.out])
        | (go_at_call 59; refine (corner_0 g a gb ab _).mono ?_; rintro e w3 ⟨rfl, rfl⟩))
      go_ret3
      exact ⟨by rw [E.out, E2.out.1, E2.out.2]; rfl, HB.out⟩
  · have hg' : inG 0 g = false := by simpa using hg
    have HC : Hid (decide (0 ≤ ixF (grF 0) g 3) = false) := Lib.hid hg'
    have E : Hid (cE 0 g a = 8) := Lib.hid (by unfold cE; rw [if_pos (by decide), if_neg hg])
    have E2 : Hid (cX 0 g a = 0 ∧ cY 0 g a = 0) := Lib.hid (by unfold cX cY; rw [E.out]; exact ⟨rfl, rfl⟩)
    clear hg hg'
    go_enter Try.func43, Try.ntmps43
    go_wp2_with (first
      | (go_at_call 57; refine (Groups_any 0 _).mono ?_; rintro e w1 ⟨v, rfl, hR, hB⟩; rw [show fE 0 = 0 from rfl]; have HR := Lib.hid hR; have HB := Lib.hid hB; clear hR hB)
      | (go_at_call 58; refine (Contains_any _ 3 (grF 0) g _ HR.out.sl (by omega)).mono ?_; rintro e w2 ⟨rfl, rfl⟩; rw [HC.out]))
    go_ret3
    exact ⟨by rw [E.out, E2.out.1, E2.out.2]; rfl, HB.out⟩

theorem Corner_1 (g a : Int) (w : World) : Calls Try.prog 43 #[.int .i64 1, .int .i64 g, .int .i64 a] w fun e w' => e = .returned (.tuple #[.int .i64 (cX 1 g a), .int .i64 (cY 1 g a), .int .i64 (cE 1 g a)]) ∧ Below w.heap.size w w' := by
  by_cases hg : inG 1 g = true
  · have gb := inG_bd1 hg
    have HG := Lib.hid hg
    have HC : Hid (decide (0 ≤ ixF (grF 1) g 12) = true) := Lib.hid hg
    clear hg
    by_cases ha : a < 1 ∨ 33 < a
    · have E : Hid (cE 1 g a = 13) := Lib.hid (by unfold cE; rw [if_pos (by decide), if_pos HG.out, if_pos ha])
      have E2 : Hid (cX 1 g a = 0 ∧ cY 1 g a = 0) := Lib.hid (by unfold cX cY; rw [E.out]; exact ⟨rfl, rfl⟩)
      rcases ha with ha | ha
      · go_enter Try.func43, Try.ntmps43
        go_wp2_with (first
          | (go_at_call 57; refine (Groups_any 1 _).mono ?_; rintro e w1 ⟨v, rfl, hR, hB⟩; rw [show fE 1 = 0 from rfl]; have HR := Lib.hid hR; have HB := Lib.hid hB; clear hR hB)
          | (go_at_call 58; refine (Contains_any _ 12 (grF 1) g _ HR.out.sl (by omega)).mono ?_; rintro e w2 ⟨rfl, rfl⟩; rw [HC.out]))
        go_ret3
        exact ⟨by rw [E.out, E2.out.1, E2.out.2]; rfl, HB.out⟩
      · have ha0 : ¬ a < 1 := by omega
        go_enter Try.func43, Try.ntmps43
        go_wp2_with (first
          | (go_at_call 57; refine (Groups_any 1 _).mono ?_; rintro e w1 ⟨v, rfl, hR, hB⟩; rw [show fE 1 = 0 from rfl]; have HR := Lib.hid hR; have HB := Lib.hid hB; clear hR hB)
          | (go_at_call 58; refine (Contains_any _ 12 (grF 1) g _ HR.out.sl (by omega)).mono ?_; rintro e w2 ⟨rfl, rfl⟩; rw [HC.out]))
        go_ret3
        exact ⟨by rw [E.out, E2.out.1, E2.out.2]; rfl, HB.out⟩
    · have ab : 1 ≤ a ∧ a ≤ 33 := by omega
      have E : Hid (cE 1 g a = 0) := Lib.hid (by unfold cE; rw [if_pos (by decide), if_pos HG.out, if_neg ha])
      have E2 : Hid (cX 1 g a = (a - 1) % 11 * 16 + (g - 1) % 2 * 176 ∧ cY 1 g a = (a - 1) / 11 * 16 + (g - 1) / 2 * 48) := Lib.hid (by unfold cX cY; rw [E.out, if_pos rfl, if_pos rfl]; rw [if_pos rfl]; exact ⟨rfl, rfl⟩)
      clear ha
      go_enter Try.func43, Try.ntmps43
      go_wp2_with (first
        | (go_at_call 57; refine (Groups_any 1 _).mono ?_; rintro e w1 ⟨v, rfl, hR, hB⟩; rw [show fE 1 = 0 from rfl]; have HR := Lib.hid hR; have HB := Lib.hid hB; clear hR hB)
        | (go_at_call 58; refine (Contains_any _ 12 (grF 1) g _ HR.out.sl (by omega)).mono ?_; rintro e w2 ⟨rfl, rfl⟩; rw [HC.out])
        | (go_at_call 59; refine (corner_1 g a gb ab _).mono ?_; rintro e w3 ⟨rfl, rfl⟩))
      go_ret3
      exact ⟨by rw [E.out, E2.out.1, E2.out.2]; rfl, HB.out⟩
  · have hg' : inG 1 g = false := by simpa using hg
    have HC : Hid (decide (0 ≤ ixF (grF 1) g 12) = false) := Lib.hid hg'
    have E : Hid (cE 1 g a = 8) := Lib.hid (by unfold cE; rw [if_pos (by decide), if_neg hg])
    have E2 : Hid (cX 1 g a = 0 ∧ cY 1 g a = 0) := Lib.hid (by unfold cX cY; rw [E.out]; exact ⟨rfl, rfl⟩)
    clear hg hg'
    go_enter Try.func43, Try.ntmps43
    go_wp2_with (first
      | (go_at_call 57; refine (Groups_any 1 _).mono ?_; rintro e w1 ⟨v, rfl, hR, hB⟩; rw [show fE 1 = 0 from rfl]; have HR := Lib.hid hR; have HB := Lib.hid hB; clear hR hB)
      | (go_at_call 58; refine (Contains_any _ 12 (grF 1) g _ HR.out.sl (by omega)).mono ?_; rintro e w2 ⟨rfl, rfl⟩; rw [HC.out]))
    go_ret3
    exact ⟨by rw [E.out, E2.out.1, E2.out.2]; rfl, HB.out⟩

theorem Corner_any (n g a : Int) (w : World) : Calls Try.prog 43 #[.int .i64 n, .int .i64 g, .int .i64 a] w fun e w' => e = .returned (.tuple #[.int .i64 (cX n g a), .int .i64 (cY n g a), .int .i64 (cE n g a)]) ∧ Below w.heap.size w w' := by
  by_cases h : n = 0 ∨ n = 1
  · rcases h with rfl | rfl
    · exact Corner_0 g a w
    · exact Corner_1 g a w
  · have E : Hid (cE n g a = 3 ∧ fE n = 3) := Lib.hid ⟨by unfold cE; rw [if_neg h], by unfold fE; rw [if_neg h]⟩
    have E2 : Hid (cX n g a = 0 ∧ cY n g a = 0) := Lib.hid (by unfold cX cY; rw [E.out.1]; exact ⟨rfl, rfl⟩)
    clear h
    go_enter Try.func43, Try.ntmps43
    go_wp2_with (go_at_call 57; refine (Groups_any n _).mono ?_; rintro e w1 ⟨v, rfl, hR, hB⟩; rw [E.out.2]; have HB := Lib.hid hB; clear hR hB)
    go_ret3
    exact ⟨by rw [E.out.1, E2.out.1, E2.out.2]; rfl, HB.out⟩
end Fr
end Go.Proofs.Ytkeempljogjceaa
