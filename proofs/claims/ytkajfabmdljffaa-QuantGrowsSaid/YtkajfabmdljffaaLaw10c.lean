/- QuantGrows. -/
import Derived.Test.YtkajfabmdljffaaLaw10b
namespace Go.Proofs.Ytkajfabmdljffaa
open Go.RowKit
namespace Qu

theorem raw_succ (l q : Int) : raw (l + 1) q = raw l q + 2 * q := by
  unfold raw
  have e : q * (2 * (l + 1) + 1) = q * (2 * l + 1) + 2 * q := by rw [show (2 * (l + 1) + 1 : Int) = (2 * l + 1) + 2 by omega, Int.mul_add]; omega
  omega
theorem raw_more (l q : Int) (h : 0 < l) : raw l q < raw l (q + 1) := by
  unfold raw
  have e : (q + 1) * (2 * l + 1) = q * (2 * l + 1) + (2 * l + 1) := by rw [Int.add_mul, Int.one_mul]
  omega

set_option maxRecDepth 100000 in
set_option maxHeartbeats 2000000 in
theorem grows_walk (a b l q x y z : Int) (w : World) (h1 : l = a % 255 - 127) (h2 : q = 1 + b % 31) (hx : x = val l q) (hy : y = val (l + 1) q) (hz : z = val l (q + 1)) (hn : l ≠ 127)
    (bx : -2048 ≤ x ∧ x ≤ 2047) (bY : -2048 ≤ y ∧ y ≤ 2047)
    (c : (l ≤ 0 ∧ -1 ≤ l ∧ x < y) ∨ (l < -1 ∧ x = -2048 ∧ y = -2048) ∨ (l < -1 ∧ x = -2048 ∧ -2048 < y) ∨ (l < -1 ∧ -2048 < x ∧ y = x + 2 * q) ∨
      (0 < l ∧ q = 31 ∧ y < 2047 ∧ y = x + 2 * q) ∨ (0 < l ∧ q = 31 ∧ y = 2047 ∧ x < 2047) ∨ (0 < l ∧ q = 31 ∧ y = 2047 ∧ x = 2047) ∨
      (0 < l ∧ q < 31 ∧ y < 2047 ∧ y = x + 2 * q ∧ x < z) ∨ (0 < l ∧ q < 31 ∧ y = 2047 ∧ x < 2047 ∧ x < z) ∨ (0 < l ∧ q < 31 ∧ y = 2047 ∧ x = 2047 ∧ z = 2047)) :
    Calls Try.prog 6 #[.int .i64 a, .int .i64 b] w fun e w' => e = .returned (.bool true) ∧ Below w.heap.size w w' := by
  have hb := Below.refl w.heap.size w
  have m1 := Int.emod_nonneg a (show (255 : Int) ≠ 0 by omega)
  have m2 := Int.emod_lt_of_pos a (show (0 : Int) < 255 by omega)
  have m3 := Int.emod_nonneg b (show (31 : Int) ≠ 0 by omega)
  have m4 := Int.emod_lt_of_pos b (show (0 : Int) < 31 by omega)
  have ok1 : okB l q = true := okB_mk (by omega) (by omega) (by omega) (by omega)
  have ok2 : okB (l + 1) q = true := okB_mk (by omega) (by omega) (by omega) (by omega)
  have ok3 : q < 31 → okB l (q + 1) = true := fun _ => okB_mk (by omega) (by omega) (by omega) (by omega)
  have bl : -127 ≤ l ∧ l < 127 := by omega
  have bq : 1 ≤ q ∧ q ≤ 31 := by omega
  have hl127 : (l == 127) = false := by simp; omega
  have OK1 := Lib.hid ok1
  have OK2 := Lib.hid ok2
  have OK3 := Lib.hid ok3
  have H1 := Lib.hid h1
  have H2 := Lib.hid h2
  have HX := Lib.hid hx
  have HY := Lib.hid hy
  have HZ := Lib.hid hz
  clear ok1 ok2 ok3 h1 h2 hx hy hz m1 m2 m3 m4
  rcases c with ⟨c1, c2, c3⟩ | ⟨c1, c2, c3⟩ | ⟨c1, c2, c3⟩ | ⟨c1, c2, c3⟩ | ⟨c1, c2, c3, c4⟩ | ⟨c1, c2, c3, c4⟩ | ⟨c1, c2, c3, c4⟩ | ⟨c1, c2, c3, c4, c5⟩ | ⟨c1, c2, c3, c4, c5⟩ | ⟨c1, c2, c3, c4, c5⟩
  · have _d904657 : decide (y < x) = false := by simp; omega
    have _d230660 : decide (0 < l) = false := by simp; omega
    have _d637299 : decide (l < -1) = false := by simp; omega
    have _d550278 : decide (l < 1) = true := by simp; omega
    have _e464968 : (y == x) = false := by simp; omega
    go_enter Try.func6, Try.ntmps6
    go_wp2_with (first
      | (go_at_call 21; refine (awake_true _).mono ?_; rintro e w1 ⟨rfl, hw⟩; have hb := hb.trans (hw.mono hb.size))
      | (go_at_call 25; refine (of_is _ _ _ _ _ H1.out H2.out).mono ?_; rintro e w1 ⟨rfl, rfl⟩)
      | (go_at_call 15; with_reducible refine (value_is l q _ _ OK1.out HX.out).mono ?_; rintro e w1 ⟨rfl, hw⟩; have hb := hb.trans (hw.mono hb.size))
      | (go_at_call 15; with_reducible refine (value_is (l + 1) q _ _ OK2.out HY.out).mono ?_; rintro e w1 ⟨rfl, hw⟩; have hb := hb.trans (hw.mono hb.size))
      | (go_at_call 15; with_reducible refine (value_is l (q + 1) _ _ (OK3.out (by omega)) HZ.out).mono ?_; rintro e w1 ⟨rfl, hw⟩; have hb := hb.trans (hw.mono hb.size)))
    go_ret
    exact ⟨rfl, hb⟩
  · subst c2 c3
    have _d230660 : decide (0 < l) = false := by simp; omega
    have _d637299 : decide (l < -1) = true := by simp; omega
    have _d550278 : decide (l < 1) = true := by simp; omega
    go_enter Try.func6, Try.ntmps6
    go_wp2_with (first
      | (go_at_call 21; refine (awake_true _).mono ?_; rintro e w1 ⟨rfl, hw⟩; have hb := hb.trans (hw.mono hb.size))
      | (go_at_call 25; refine (of_is _ _ _ _ _ H1.out H2.out).mono ?_; rintro e w1 ⟨rfl, rfl⟩)
      | (go_at_call 15; with_reducible refine (value_is l q _ _ OK1.out HX.out).mono ?_; rintro e w1 ⟨rfl, hw⟩; have hb := hb.trans (hw.mono hb.size))
      | (go_at_call 15; with_reducible refine (value_is (l + 1) q _ _ OK2.out HY.out).mono ?_; rintro e w1 ⟨rfl, hw⟩; have hb := hb.trans (hw.mono hb.size))
      | (go_at_call 15; with_reducible refine (value_is l (q + 1) _ _ (OK3.out (by omega)) HZ.out).mono ?_; rintro e w1 ⟨rfl, hw⟩; have hb := hb.trans (hw.mono hb.size)))
    go_ret
    exact ⟨rfl, hb⟩
  · subst c2
    have _d822857 : decide (y < -2048) = false := by simp; omega
    have _d230660 : decide (0 < l) = false := by simp; omega
    have _d637299 : decide (l < -1) = true := by simp; omega
    have _d550278 : decide (l < 1) = true := by simp; omega
    have _e883836 : (y == -2048) = false := by simp; omega
    go_enter Try.func6, Try.ntmps6
    go_wp2_with (first
      | (go_at_call 21; refine (awake_true _).mono ?_; rintro e w1 ⟨rfl, hw⟩; have hb := hb.trans (hw.mono hb.size))
      | (go_at_call 25; refine (of_is _ _ _ _ _ H1.out H2.out).mono ?_; rintro e w1 ⟨rfl, rfl⟩)
      | (go_at_call 15; with_reducible refine (value_is l q _ _ OK1.out HX.out).mono ?_; rintro e w1 ⟨rfl, hw⟩; have hb := hb.trans (hw.mono hb.size))
      | (go_at_call 15; with_reducible refine (value_is (l + 1) q _ _ OK2.out HY.out).mono ?_; rintro e w1 ⟨rfl, hw⟩; have hb := hb.trans (hw.mono hb.size))
      | (go_at_call 15; with_reducible refine (value_is l (q + 1) _ _ (OK3.out (by omega)) HZ.out).mono ?_; rintro e w1 ⟨rfl, hw⟩; have hb := hb.trans (hw.mono hb.size)))
    go_ret
    exact ⟨rfl, hb⟩
  · have _d904657 : decide (y < x) = false := by simp; omega
    have _d230660 : decide (0 < l) = false := by simp; omega
    have _d637299 : decide (l < -1) = true := by simp; omega
    have _d550278 : decide (l < 1) = true := by simp; omega
    have _d545871 : decide (-2048 < x) = true := by simp; omega
    have _e464968 : (y == x) = false := by simp; omega
    have _e379920 : (y - x == 2 * q) = true := by simp; omega
    have _e738268 : (y - x != 2 * q) = false := by simp; omega
    clear c3
    go_enter Try.func6, Try.ntmps6
    go_wp2_with (first
      | (go_at_call 21; refine (awake_true _).mono ?_; rintro e w1 ⟨rfl, hw⟩; have hb := hb.trans (hw.mono hb.size))
      | (go_at_call 25; refine (of_is _ _ _ _ _ H1.out H2.out).mono ?_; rintro e w1 ⟨rfl, rfl⟩)
      | (go_at_call 15; with_reducible refine (value_is l q _ _ OK1.out HX.out).mono ?_; rintro e w1 ⟨rfl, hw⟩; have hb := hb.trans (hw.mono hb.size))
      | (go_at_call 15; with_reducible refine (value_is (l + 1) q _ _ OK2.out HY.out).mono ?_; rintro e w1 ⟨rfl, hw⟩; have hb := hb.trans (hw.mono hb.size))
      | (go_at_call 15; with_reducible refine (value_is l (q + 1) _ _ (OK3.out (by omega)) HZ.out).mono ?_; rintro e w1 ⟨rfl, hw⟩; have hb := hb.trans (hw.mono hb.size)))
    go_ret
    exact ⟨rfl, hb⟩
  · have _d904657 : decide (y < x) = false := by simp; omega
    have _d230660 : decide (0 < l) = true := by simp; omega
    have _d637299 : decide (l < -1) = false := by simp; omega
    have _d550278 : decide (l < 1) = false := by simp; omega
    have _d428009 : decide (y < 2047) = true := by simp; omega
    have _e464968 : (y == x) = false := by simp; omega
    have _e379920 : (y - x == 2 * q) = true := by simp; omega
    have _e813249 : (q == 31) = true := by simp; omega
    have _e738268 : (y - x != 2 * q) = false := by simp; omega
    clear c4
    clear c2
    go_enter Try.func6, Try.ntmps6
    go_wp2_with (first
      | (go_at_call 21; refine (awake_true _).mono ?_; rintro e w1 ⟨rfl, hw⟩; have hb := hb.trans (hw.mono hb.size))
      | (go_at_call 25; refine (of_is _ _ _ _ _ H1.out H2.out).mono ?_; rintro e w1 ⟨rfl, rfl⟩)
      | (go_at_call 15; with_reducible refine (value_is l q _ _ OK1.out HX.out).mono ?_; rintro e w1 ⟨rfl, hw⟩; have hb := hb.trans (hw.mono hb.size))
      | (go_at_call 15; with_reducible refine (value_is (l + 1) q _ _ OK2.out HY.out).mono ?_; rintro e w1 ⟨rfl, hw⟩; have hb := hb.trans (hw.mono hb.size))
      | (go_at_call 15; with_reducible refine (value_is l (q + 1) _ _ (OK3.out (by omega)) HZ.out).mono ?_; rintro e w1 ⟨rfl, hw⟩; have hb := hb.trans (hw.mono hb.size)))
    go_ret
    exact ⟨rfl, hb⟩
  · subst c3
    have _d375153 : decide (2047 < x) = false := by simp; omega
    have _d230660 : decide (0 < l) = true := by simp; omega
    have _d637299 : decide (l < -1) = false := by simp; omega
    have _d550278 : decide (l < 1) = false := by simp; omega
    have _e587171 : (2047 == x) = false := by simp; omega
    have _e813249 : (q == 31) = true := by simp; omega
    clear c2
    go_enter Try.func6, Try.ntmps6
    go_wp2_with (first
      | (go_at_call 21; refine (awake_true _).mono ?_; rintro e w1 ⟨rfl, hw⟩; have hb := hb.trans (hw.mono hb.size))
      | (go_at_call 25; refine (of_is _ _ _ _ _ H1.out H2.out).mono ?_; rintro e w1 ⟨rfl, rfl⟩)
      | (go_at_call 15; with_reducible refine (value_is l q _ _ OK1.out HX.out).mono ?_; rintro e w1 ⟨rfl, hw⟩; have hb := hb.trans (hw.mono hb.size))
      | (go_at_call 15; with_reducible refine (value_is (l + 1) q _ _ OK2.out HY.out).mono ?_; rintro e w1 ⟨rfl, hw⟩; have hb := hb.trans (hw.mono hb.size))
      | (go_at_call 15; with_reducible refine (value_is l (q + 1) _ _ (OK3.out (by omega)) HZ.out).mono ?_; rintro e w1 ⟨rfl, hw⟩; have hb := hb.trans (hw.mono hb.size)))
    go_ret
    exact ⟨rfl, hb⟩
  · subst c3 c4
    have _d230660 : decide (0 < l) = true := by simp; omega
    have _d637299 : decide (l < -1) = false := by simp; omega
    have _d550278 : decide (l < 1) = false := by simp; omega
    have _e813249 : (q == 31) = true := by simp; omega
    clear c2
    go_enter Try.func6, Try.ntmps6
    go_wp2_with (first
      | (go_at_call 21; refine (awake_true _).mono ?_; rintro e w1 ⟨rfl, hw⟩; have hb := hb.trans (hw.mono hb.size))
      | (go_at_call 25; refine (of_is _ _ _ _ _ H1.out H2.out).mono ?_; rintro e w1 ⟨rfl, rfl⟩)
      | (go_at_call 15; with_reducible refine (value_is l q _ _ OK1.out HX.out).mono ?_; rintro e w1 ⟨rfl, hw⟩; have hb := hb.trans (hw.mono hb.size))
      | (go_at_call 15; with_reducible refine (value_is (l + 1) q _ _ OK2.out HY.out).mono ?_; rintro e w1 ⟨rfl, hw⟩; have hb := hb.trans (hw.mono hb.size))
      | (go_at_call 15; with_reducible refine (value_is l (q + 1) _ _ (OK3.out (by omega)) HZ.out).mono ?_; rintro e w1 ⟨rfl, hw⟩; have hb := hb.trans (hw.mono hb.size)))
    go_ret
    exact ⟨rfl, hb⟩
  · have _d904657 : decide (y < x) = false := by simp; omega
    have _d230660 : decide (0 < l) = true := by simp; omega
    have _d637299 : decide (l < -1) = false := by simp; omega
    have _d550278 : decide (l < 1) = false := by simp; omega
    have _d428009 : decide (y < 2047) = true := by simp; omega
    have _d687585 : decide (x < z) = true := by simp; omega
    have _e464968 : (y == x) = false := by simp; omega
    have _e379920 : (y - x == 2 * q) = true := by simp; omega
    have _e813249 : (q == 31) = false := by simp; omega
    have _e738268 : (y - x != 2 * q) = false := by simp; omega
    clear c4
    go_enter Try.func6, Try.ntmps6
    go_wp2_with (first
      | (go_at_call 21; refine (awake_true _).mono ?_; rintro e w1 ⟨rfl, hw⟩; have hb := hb.trans (hw.mono hb.size))
      | (go_at_call 25; refine (of_is _ _ _ _ _ H1.out H2.out).mono ?_; rintro e w1 ⟨rfl, rfl⟩)
      | (go_at_call 15; with_reducible refine (value_is l q _ _ OK1.out HX.out).mono ?_; rintro e w1 ⟨rfl, hw⟩; have hb := hb.trans (hw.mono hb.size))
      | (go_at_call 15; with_reducible refine (value_is (l + 1) q _ _ OK2.out HY.out).mono ?_; rintro e w1 ⟨rfl, hw⟩; have hb := hb.trans (hw.mono hb.size))
      | (go_at_call 15; with_reducible refine (value_is l (q + 1) _ _ (OK3.out (by omega)) HZ.out).mono ?_; rintro e w1 ⟨rfl, hw⟩; have hb := hb.trans (hw.mono hb.size)))
    go_ret
    exact ⟨rfl, hb⟩
  · subst c3
    have _d375153 : decide (2047 < x) = false := by simp; omega
    have _d230660 : decide (0 < l) = true := by simp; omega
    have _d637299 : decide (l < -1) = false := by simp; omega
    have _d550278 : decide (l < 1) = false := by simp; omega
    have _d687585 : decide (x < z) = true := by simp; omega
    have _e587171 : (2047 == x) = false := by simp; omega
    have _e813249 : (q == 31) = false := by simp; omega
    go_enter Try.func6, Try.ntmps6
    go_wp2_with (first
      | (go_at_call 21; refine (awake_true _).mono ?_; rintro e w1 ⟨rfl, hw⟩; have hb := hb.trans (hw.mono hb.size))
      | (go_at_call 25; refine (of_is _ _ _ _ _ H1.out H2.out).mono ?_; rintro e w1 ⟨rfl, rfl⟩)
      | (go_at_call 15; with_reducible refine (value_is l q _ _ OK1.out HX.out).mono ?_; rintro e w1 ⟨rfl, hw⟩; have hb := hb.trans (hw.mono hb.size))
      | (go_at_call 15; with_reducible refine (value_is (l + 1) q _ _ OK2.out HY.out).mono ?_; rintro e w1 ⟨rfl, hw⟩; have hb := hb.trans (hw.mono hb.size))
      | (go_at_call 15; with_reducible refine (value_is l (q + 1) _ _ (OK3.out (by omega)) HZ.out).mono ?_; rintro e w1 ⟨rfl, hw⟩; have hb := hb.trans (hw.mono hb.size)))
    go_ret
    exact ⟨rfl, hb⟩
  · subst c3 c4 c5
    have _d230660 : decide (0 < l) = true := by simp; omega
    have _d637299 : decide (l < -1) = false := by simp; omega
    have _d550278 : decide (l < 1) = false := by simp; omega
    have _e813249 : (q == 31) = false := by simp; omega
    go_enter Try.func6, Try.ntmps6
    go_wp2_with (first
      | (go_at_call 21; refine (awake_true _).mono ?_; rintro e w1 ⟨rfl, hw⟩; have hb := hb.trans (hw.mono hb.size))
      | (go_at_call 25; refine (of_is _ _ _ _ _ H1.out H2.out).mono ?_; rintro e w1 ⟨rfl, rfl⟩)
      | (go_at_call 15; with_reducible refine (value_is l q _ _ OK1.out HX.out).mono ?_; rintro e w1 ⟨rfl, hw⟩; have hb := hb.trans (hw.mono hb.size))
      | (go_at_call 15; with_reducible refine (value_is (l + 1) q _ _ OK2.out HY.out).mono ?_; rintro e w1 ⟨rfl, hw⟩; have hb := hb.trans (hw.mono hb.size))
      | (go_at_call 15; with_reducible refine (value_is l (q + 1) _ _ (OK3.out (by omega)) HZ.out).mono ?_; rintro e w1 ⟨rfl, hw⟩; have hb := hb.trans (hw.mono hb.size)))
    go_ret
    exact ⟨rfl, hb⟩

set_option maxRecDepth 100000 in
theorem QuantGrows_walk (a b : Int) (w : World) (_ : (Lit.int .i64 a).wf = true) (_ : (Lit.int .i64 b).wf = true) :
    Calls Try.prog 6 #[.int .i64 a, .int .i64 b] w fun e w' => e = .returned (.bool true) ∧ Below w.heap.size w w' := by
  have m1 := Int.emod_nonneg a (show (255 : Int) ≠ 0 by omega)
  have m2 := Int.emod_lt_of_pos a (show (0 : Int) < 255 by omega)
  have m3 := Int.emod_nonneg b (show (31 : Int) ≠ 0 by omega)
  have m4 := Int.emod_lt_of_pos b (show (0 : Int) < 31 by omega)
  obtain ⟨l, hl⟩ : ∃ l, l = a % 255 - 127 := ⟨_, rfl⟩
  obtain ⟨q, hq⟩ : ∃ q, q = 1 + b % 31 := ⟨_, rfl⟩
  by_cases h127 : l = 127
  · have hb := Below.refl w.heap.size w
    have e1 : (127 : Int) = a % 255 - 127 := by omega
    have H1 := Lib.hid e1
    have H2 := Lib.hid hq
    clear m1 m2 m3 m4 h127 hl hq e1
    go_enter Try.func6, Try.ntmps6
    go_wp2_with (first
      | (go_at_call 21; refine (awake_true _).mono ?_; rintro e w1 ⟨rfl, hw⟩; have hb := hb.trans (hw.mono hb.size))
      | (go_at_call 25; refine (of_is _ _ _ _ _ H1.out H2.out).mono ?_; rintro e w1 ⟨rfl, rfl⟩))
    go_ret
    exact ⟨rfl, hb⟩
  have hq1 : 1 ≤ q := by omega
  refine grows_walk a b l q _ _ _ w hl hq rfl rfl rfl h127 (val_bd l q hq1) (val_bd (l + 1) q hq1) ?_
  rcases (by omega : 0 < l ∨ l = 0 ∨ l = -1 ∨ l < -1) with h | h | h | h
  · rw [val_pos l q h, val_pos (l + 1) q (by omega), val_pos l (q + 1) h, raw_succ]
    have r1 := raw_more l q h
    have r2 := raw_pos l q h hq1
    generalize raw l q = r at *
    generalize raw l (q + 1) = r' at *
    right; right; right; right
    rcases (by omega : q = 31 ∨ q < 31) with g | g
    · rcases (by omega : r + 2 * q < 2047 ∨ (2047 ≤ r + 2 * q ∧ r < 2047) ∨ 2047 ≤ r) with k | k | k
      · exact .inl ⟨h, g, by omega, by omega⟩
      · exact .inr (.inl ⟨h, g, by omega, by omega⟩)
      · exact .inr (.inr (.inl ⟨h, g, by omega, by omega⟩))
    · right; right; right
      rcases (by omega : r + 2 * q < 2047 ∨ (2047 ≤ r + 2 * q ∧ r < 2047) ∨ 2047 ≤ r) with k | k | k
      · exact .inl ⟨h, g, by omega, by omega, by omega⟩
      · exact .inr (.inl ⟨h, g, by omega, by omega, by omega⟩)
      · exact .inr (.inr ⟨h, g, by omega, by omega, by omega⟩)
  · subst h
    have e : val (0 + 1) q = min (raw 1 q) 2047 := val_pos 1 q (by omega)
    have := raw_pos 1 q (by omega) hq1
    rw [e, val_zero]
    exact .inl ⟨by omega, by omega, by omega⟩
  · subst h
    have e : val (-1 + 1) q = 0 := val_zero q
    have e2 : val (-1) q = max (-(raw 1 q)) (-2048) := val_neg 1 q (by omega)
    have := raw_pos 1 q (by omega) hq1
    rw [e, e2]
    exact .inl ⟨by omega, by omega, by omega⟩
  · have e1 := val_neg (-l) q (by omega)
    have e2 := val_neg (-(l + 1)) q (by omega)
    have e3 := raw_succ (-(l + 1)) q
    rw [show (-(l + 1) + 1 : Int) = -l by omega] at e3
    rw [Int.neg_neg] at e1 e2
    rw [e1, e2, e3]
    have r2 := raw_pos (-(l + 1)) q (by omega) hq1
    generalize raw (-(l + 1)) q = r at *
    right
    rcases (by omega : r + 2 * q < 2048 ∨ (2048 ≤ r + 2 * q ∧ r < 2048) ∨ 2048 ≤ r) with k | k | k
    · exact .inr (.inr (.inl ⟨h, by omega, by omega⟩))
    · exact .inr (.inl ⟨h, by omega, by omega⟩)
    · exact .inl ⟨h, by omega, by omega⟩
end Qu
end Go.Proofs.Ytkajfabmdljffaa
