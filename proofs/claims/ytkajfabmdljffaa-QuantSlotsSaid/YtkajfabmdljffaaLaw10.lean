/- The small functions of the statements on levels. -/
import Derived.Test.YtkajfabmdljffaaQuantRN
import Derived.Test.YtkajfabmdljffaaPick
namespace Go.Proofs.Ytkajfabmdljffaa
open Go.RowKit
namespace Qu

theorem rNearest_any (t q : Int) (w : World) :
    Calls Try.prog 20 #[.int .i64 t, .int .i64 q] w fun e w' => e = .returned (.tuple #[.int .i64 (nV t q), .int .i64 (nE t q)]) ∧ w = w' := by
  cases h : nearOkB t q
  · have e1 : nV t q = 0 := by unfold nV; rw [h]; rfl
    have e2 : nE t q = 3 := by unfold nE; rw [h]; rfl
    rw [e1, e2]
    rcases nearOk_no h with g | g | ⟨g1, g2, g⟩ | ⟨g1, g2, g⟩ <;> clear h e1 e2
    · have _d : decide (t < -2048) = true := by simp; omega
      go_enter Try.func20, Try.ntmps20
      go_wp2
      go_ret2
      exact ⟨rfl, rfl⟩
    · have _d : decide (t < -2048) = false := by simp; omega
      have _d2 : decide (2047 < t) = true := by simp; omega
      go_enter Try.func20, Try.ntmps20
      go_wp2
      go_ret2
      exact ⟨rfl, rfl⟩
    · have _d : decide (t < -2048) = false := by simp; omega
      have _d2 : decide (2047 < t) = false := by simp; omega
      have _d3 : decide (1 ≤ q) = false := by simp; omega
      go_enter Try.func20, Try.ntmps20
      go_wp2
      go_ret2
      exact ⟨rfl, rfl⟩
    · have _d : decide (t < -2048) = false := by simp; omega
      have _d2 : decide (2047 < t) = false := by simp; omega
      have _d3 : decide (q ≤ 31) = false := by simp; omega
      go_enter Try.func20, Try.ntmps20
      go_wp2
      go_ret2
      exact ⟨rfl, rfl⟩
  · have e1 : nV t q = best t q 127 := by unfold nV; rw [h]; rfl
    have e2 : nE t q = 0 := by unfold nE; rw [h]; rfl
    obtain ⟨⟨h1, h2⟩, h3, h4⟩ := nearOk_yes h
    rw [e1, e2, best_eq t q h3]
    exact rnear_yes t q w h1 h2 h3 h4 (decide (0 ≤ t)) (by simp) (by simp)

theorem values_true (l q x : Int) (w : World) (h1 : vV l q = x) (h2 : vE l q = 0) :
    Calls Try.prog 22 #[.int .i64 l, .int .i64 q, .int .i64 x] w fun e w' => e = .returned (.bool true) ∧ Below w.heap.size w w' := by
  subst h1
  have H2 := Lib.hid h2
  clear h2
  go_enter Try.func22, Try.ntmps22
  go_wp2_with (go_at_call 15; refine (Value_any _ _ _).mono ?_; rintro e w1 ⟨rfl, hw⟩; rw [H2.out])
  go_ret
  exact ⟨rfl, hw⟩
theorem dc_true (c x y : Int) (w : World) (h1 : dcV c = x) (h2 : dcE c = y) :
    Calls Try.prog 23 #[.int .i64 c, .int .i64 x, .int .i64 y] w fun e w' => e = .returned (.bool true) ∧ w = w' := by
  subst h1 h2
  go_enter Try.func23, Try.ntmps23
  go_wp2_with (go_at_call 17; refine (DC_any _ _).mono ?_; rintro e w1 ⟨rfl, rfl⟩)
  go_ret
  exact ⟨rfl, rfl⟩
theorem near_true (t q x y : Int) (w : World) (h1 : nV t q = x) (h2 : nE t q = y) :
    Calls Try.prog 24 #[.int .i64 t, .int .i64 q, .int .i64 x, .int .i64 y] w fun e w' => e = .returned (.bool true) ∧ Below w.heap.size w w' := by
  subst h1 h2
  go_enter Try.func24, Try.ntmps24
  go_wp2_with (go_at_call 19; refine (Nearest_any _ _ _).mono ?_; rintro e w1 ⟨rfl, hw⟩)
  go_ret
  exact ⟨rfl, hw⟩

theorem awake_true (w : World) : Calls Try.prog 21 #[] w fun e w' => e = .returned (.bool true) ∧ Below w.heap.size w w' := by
  have hb := Below.refl w.heap.size w
  go_enter Try.func21, Try.ntmps21
  go_wp2_with (first
    | (go_at_call 22; refine (values_true _ _ _ _ (by decide +kernel) (by decide +kernel)).mono ?_; rintro e w1 ⟨rfl, hw⟩; have hb := hb.trans (hw.mono hb.size))
    | (go_at_call 23; refine (dc_true _ _ _ _ (by decide +kernel) (by decide +kernel)).mono ?_; rintro e w1 ⟨rfl, rfl⟩)
    | (go_at_call 24; refine (near_true _ _ _ _ _ (by decide +kernel) (by decide +kernel)).mono ?_; rintro e w1 ⟨rfl, hw⟩; have hb := hb.trans (hw.mono hb.size)))
  go_ret
  exact ⟨rfl, hb⟩

set_option maxRecDepth 100000 in
theorem known_true (w : World) : Calls Try.prog 4 #[] w fun e w' => e = .returned (.bool true) ∧ Below w.heap.size w w' := by
  have hb := Below.refl w.heap.size w
  have v1 : vE 128 1 = 3 := by decide +kernel
  have v2 : vE 1 32 = 3 := by decide +kernel
  go_enter Try.func4, Try.ntmps4
  go_wp2_with (first
    | (go_at_call 15; refine (Value_any _ _ _).mono ?_; rintro e w1 ⟨rfl, hw⟩; have hb := hb.trans (hw.mono hb.size))
    | (go_at_call 21; refine (awake_true _).mono ?_; rintro e w1 ⟨rfl, hw⟩; have hb := hb.trans (hw.mono hb.size))
    | (go_at_call 22; refine (values_true _ _ _ _ (by decide +kernel) (by decide +kernel)).mono ?_; rintro e w1 ⟨rfl, hw⟩; have hb := hb.trans (hw.mono hb.size))
    | (go_at_call 23; refine (dc_true _ _ _ _ (by decide +kernel) (by decide +kernel)).mono ?_; rintro e w1 ⟨rfl, rfl⟩)
    | (go_at_call 24; refine (near_true _ _ _ _ _ (by decide +kernel) (by decide +kernel)).mono ?_; rintro e w1 ⟨rfl, hw⟩; have hb := hb.trans (hw.mono hb.size)))
  go_ret
  exact ⟨rfl, hb⟩

set_option maxRecDepth 100000 in
theorem tells_true (l q c t : Int) (w : World) : Calls Try.prog 3 #[.int .i64 l, .int .i64 q, .int .i64 c, .int .i64 t] w fun e w' => e = .returned (.bool true) ∧ Below w.heap.size w w' := by
  have hb := Below.refl w.heap.size w
  go_enter Try.func3, Try.ntmps3
  go_wp2_with (first
    | (go_at_call 15; refine (Value_any _ _ _).mono ?_; rintro e w1 ⟨rfl, hw⟩; have hb := hb.trans (hw.mono hb.size))
    | (go_at_call 16; refine (rValue_any _ _ _).mono ?_; rintro e w1 ⟨rfl, rfl⟩)
    | (go_at_call 17; refine (DC_any _ _).mono ?_; rintro e w1 ⟨rfl, rfl⟩)
    | (go_at_call 18; refine (rDC_any _ _).mono ?_; rintro e w1 ⟨rfl, rfl⟩)
    | (go_at_call 19; refine (Nearest_any _ _ _).mono ?_; rintro e w1 ⟨rfl, hw⟩; have hb := hb.trans (hw.mono hb.size))
    | (go_at_call 20; refine (rNearest_any _ _ _).mono ?_; rintro e w1 ⟨rfl, rfl⟩)
    | (go_at_call 21; refine (awake_true _).mono ?_; rintro e w1 ⟨rfl, hw⟩; have hb := hb.trans (hw.mono hb.size)))
  go_ret
  exact ⟨rfl, hb⟩

theorem QuantTells_walk (l q c t : Int) (w : World) (_ : (Lit.int .i64 l).wf = true) (_ : (Lit.int .i64 q).wf = true) (_ : (Lit.int .i64 c).wf = true) (_ : (Lit.int .i64 t).wf = true) :
    Calls Try.prog 3 #[.int .i64 l, .int .i64 q, .int .i64 c, .int .i64 t] w fun e w' => e = .returned (.bool true) ∧ Below w.heap.size w w' := tells_true l q c t w
end Qu
end Go.Proofs.Ytkajfabmdljffaa
