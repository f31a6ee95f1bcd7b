/- QuantOdd, QuantGrows, QuantNear. -/
import Derived.Test.YtkajfabmdljffaaLaw10
namespace Go.Proofs.Ytkajfabmdljffaa
open Go.RowKit
namespace Qu

theorem of_is (a b l q : Int) (w : World) (h1 : l = a % 255 - 127) (h2 : q = 1 + b % 31) :
    Calls Try.prog 25 #[.int .i64 a, .int .i64 b] w fun e w' => e = .returned (.tuple #[.int .i64 l, .int .i64 q]) ∧ w = w' := by
  subst h1 h2
  have m1 := Int.emod_nonneg a (show (255 : Int) ≠ 0 by omega)
  have m2 := Int.emod_lt_of_pos a (show (0 : Int) < 255 by omega)
  have m3 := Int.emod_nonneg b (show (31 : Int) ≠ 0 by omega)
  have m4 := Int.emod_lt_of_pos b (show (0 : Int) < 31 by omega)
  go_enter Try.func25, Try.ntmps25
  go_wp2_with (go_at_call 26; refine (Pick_any _ _ _ (by omega) (by omega)).mono ?_; rintro e w1 ⟨rfl, rfl⟩)
  go_ret2
  exact ⟨rfl, rfl⟩
theorem value_is (l q x : Int) (w : World) (h : okB l q = true) (hx : x = val l q) :
    Calls Try.prog 15 #[.int .i64 l, .int .i64 q] w fun e w' => e = .returned (.tuple #[.int .i64 x, .int .i64 0]) ∧ Below w.heap.size w w' := by
  subst hx; exact value_yes l q w h
theorem raw_odd (l q : Int) : raw l q % 2 = 1 := by
  unfold raw
  have e : q * (2 * l + 1) = 2 * (q * l) + q := by rw [Int.mul_add, Int.mul_one, ← Int.mul_assoc, Int.mul_comm q 2, Int.mul_assoc]
  rw [e]; omega

/-- the walk of QuantOdd, its values given. -/
theorem odd_walk (a b l q x y : Int) (w : World) (h1 : l = a % 255 - 127) (h2 : q = 1 + b % 31) (hx : x = val l q) (hy : y = val (-l) q)
    (c : (l = 0 ∧ x = 0 ∧ y = 0) ∨ (0 < l ∧ 0 < x ∧ x ≤ 2047 ∧ x % 2 = 1 ∧ y = -x) ∨ (0 < l ∧ x = 2047 ∧ y = -2048) ∨ (l < 0 ∧ 0 < y ∧ y ≤ 2047 ∧ y % 2 = 1 ∧ x = -y) ∨ (l < 0 ∧ x = -2048 ∧ y = 2047)) :
    Calls Try.prog 5 #[.int .i64 a, .int .i64 b] w fun e w' => e = .returned (.bool true) ∧ Below w.heap.size w w' := by
  have hb := Below.refl w.heap.size w
  have m1 := Int.emod_nonneg a (show (255 : Int) ≠ 0 by omega)
  have m2 := Int.emod_lt_of_pos a (show (0 : Int) < 255 by omega)
  have m3 := Int.emod_nonneg b (show (31 : Int) ≠ 0 by omega)
  have m4 := Int.emod_lt_of_pos b (show (0 : Int) < 31 by omega)
  have ok1 : okB l q = true := okB_mk (by omega) (by omega) (by omega) (by omega)
  have ok2 : okB (-l) q = true := okB_mk (by omega) (by omega) (by omega) (by omega)
  have bl : -127 ≤ l ∧ l ≤ 127 := by omega
  have OK1 := Lib.hid ok1
  have OK2 := Lib.hid ok2
  have H1 := Lib.hid h1
  have H2 := Lib.hid h2
  have HX := Lib.hid hx
  have HY := Lib.hid hy
  clear ok1 ok2 h1 h2 hx hy m1 m2 m3 m4
  rcases c with ⟨c1, c2, c3⟩ | ⟨c1, c2, c3, c4, c5⟩ | ⟨c1, c2, c3⟩ | ⟨c1, c2, c3, c4, c5⟩ | ⟨c1, c2, c3⟩
  · subst c1 c2 c3
    go_enter Try.func5, Try.ntmps5
    go_wp2_with (first
      | (go_at_call 4; refine (known_true _).mono ?_; rintro e w1 ⟨rfl, hw⟩; have hb := hb.trans (hw.mono hb.size))
      | (go_at_call 25; refine (of_is _ _ _ _ _ H1.out H2.out).mono ?_; rintro e w1 ⟨rfl, rfl⟩)
      | (go_at_call 15; refine (value_is _ _ _ _ OK1.out HX.out).mono ?_; rintro e w1 ⟨rfl, hw⟩; have hb := hb.trans (hw.mono hb.size)))
    go_ret
    exact ⟨rfl, hb⟩
  · subst c5
    have k1 : (x == 0) = false := by simp; omega
    have k2 : (l == 0) = false := by simp; omega
    have k3 : decide (x < -2048) = false := by simp; omega
    have k4 : decide (2047 < x) = false := by simp; omega
    go_enter Try.func5, Try.ntmps5
    go_wp2_with (first
      | (go_at_call 4; refine (known_true _).mono ?_; rintro e w1 ⟨rfl, hw⟩; have hb := hb.trans (hw.mono hb.size))
      | (go_at_call 25; refine (of_is _ _ _ _ _ H1.out H2.out).mono ?_; rintro e w1 ⟨rfl, rfl⟩)
      | (go_at_call 15; with_reducible refine (value_is l q _ _ OK1.out HX.out).mono ?_; rintro e w1 ⟨rfl, hw⟩; have hb := hb.trans (hw.mono hb.size))
      | (go_at_call 15; with_reducible refine (value_is (-l) q _ _ OK2.out HY.out).mono ?_; rintro e w1 ⟨rfl, hw⟩; have hb := hb.trans (hw.mono hb.size)))
    go_ret
    exact ⟨rfl, hb⟩
  · subst c2 c3
    have k2 : (l == 0) = false := by simp; omega
    go_enter Try.func5, Try.ntmps5
    go_wp2_with (first
      | (go_at_call 4; refine (known_true _).mono ?_; rintro e w1 ⟨rfl, hw⟩; have hb := hb.trans (hw.mono hb.size))
      | (go_at_call 25; refine (of_is _ _ _ _ _ H1.out H2.out).mono ?_; rintro e w1 ⟨rfl, rfl⟩)
      | (go_at_call 15; with_reducible refine (value_is l q _ _ OK1.out HX.out).mono ?_; rintro e w1 ⟨rfl, hw⟩; have hb := hb.trans (hw.mono hb.size))
      | (go_at_call 15; with_reducible refine (value_is (-l) q _ _ OK2.out HY.out).mono ?_; rintro e w1 ⟨rfl, hw⟩; have hb := hb.trans (hw.mono hb.size)))
    go_ret
    exact ⟨rfl, hb⟩
  · have k1 : (x == 0) = false := by simp; omega
    have k2 : (l == 0) = false := by simp; omega
    have k3 : decide (x < -2048) = false := by simp; omega
    have k4 : decide (2047 < x) = false := by simp; omega
    have k5 : x.tmod 2 = -1 := by rw [c5, Int.neg_tmod, Int.tmod_eq_emod_of_nonneg (by omega)]; omega
    have k6 : decide (0 < x) = false := by simp; omega
    have k7 : (x == -y) = true := by simp; omega
    clear c5
    go_enter Try.func5, Try.ntmps5
    go_wp2_with (first
      | (go_at_call 4; refine (known_true _).mono ?_; rintro e w1 ⟨rfl, hw⟩; have hb := hb.trans (hw.mono hb.size))
      | (go_at_call 25; refine (of_is _ _ _ _ _ H1.out H2.out).mono ?_; rintro e w1 ⟨rfl, rfl⟩)
      | (go_at_call 15; with_reducible refine (value_is l q _ _ OK1.out HX.out).mono ?_; rintro e w1 ⟨rfl, hw⟩; have hb := hb.trans (hw.mono hb.size))
      | (go_at_call 15; with_reducible refine (value_is (-l) q _ _ OK2.out HY.out).mono ?_; rintro e w1 ⟨rfl, hw⟩; have hb := hb.trans (hw.mono hb.size)))
    go_ret
    exact ⟨rfl, hb⟩
  · subst c2 c3
    have k2 : (l == 0) = false := by simp; omega
    go_enter Try.func5, Try.ntmps5
    go_wp2_with (first
      | (go_at_call 4; refine (known_true _).mono ?_; rintro e w1 ⟨rfl, hw⟩; have hb := hb.trans (hw.mono hb.size))
      | (go_at_call 25; refine (of_is _ _ _ _ _ H1.out H2.out).mono ?_; rintro e w1 ⟨rfl, rfl⟩)
      | (go_at_call 15; with_reducible refine (value_is l q _ _ OK1.out HX.out).mono ?_; rintro e w1 ⟨rfl, hw⟩; have hb := hb.trans (hw.mono hb.size))
      | (go_at_call 15; with_reducible refine (value_is (-l) q _ _ OK2.out HY.out).mono ?_; rintro e w1 ⟨rfl, hw⟩; have hb := hb.trans (hw.mono hb.size)))
    go_ret
    exact ⟨rfl, hb⟩

theorem QuantOdd_walk (a b : Int) (w : World) (_ : (Lit.int .i64 a).wf = true) (_ : (Lit.int .i64 b).wf = true) :
    Calls Try.prog 5 #[.int .i64 a, .int .i64 b] w fun e w' => e = .returned (.bool true) ∧ Below w.heap.size w w' := by
  have m1 := Int.emod_nonneg a (show (255 : Int) ≠ 0 by omega)
  have m2 := Int.emod_lt_of_pos a (show (0 : Int) < 255 by omega)
  have m3 := Int.emod_nonneg b (show (31 : Int) ≠ 0 by omega)
  have m4 := Int.emod_lt_of_pos b (show (0 : Int) < 31 by omega)
  obtain ⟨l, hl⟩ : ∃ l, l = a % 255 - 127 := ⟨_, rfl⟩
  obtain ⟨q, hq⟩ : ∃ q, q = 1 + b % 31 := ⟨_, rfl⟩
  refine odd_walk a b l q _ _ w hl hq rfl rfl ?_
  have hq1 : 1 ≤ q := by omega
  rcases (by omega : l = 0 ∨ 0 < l ∨ l < 0) with h | h | h
  · subst h; left; simp [val_zero]
  · right
    rw [val_pos l q h, val_neg l q h]
    have := raw_pos l q h hq1
    have := raw_odd l q
    omega
  · right; right; right
    have hn : -l > 0 := by omega
    have e := val_neg (-l) q hn
    rw [Int.neg_neg] at e
    rw [e, val_pos (-l) q hn]
    have := raw_pos (-l) q hn hq1
    have := raw_odd (-l) q
    omega
end Qu
end Go.Proofs.Ytkajfabmdljffaa
