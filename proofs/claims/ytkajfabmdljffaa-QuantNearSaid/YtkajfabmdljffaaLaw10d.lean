/- QuantNear. -/
import Derived.Test.YtkajfabmdljffaaLaw10b
namespace Go.Proofs.Ytkajfabmdljffaa
open Go.RowKit
namespace Qu

theorem near_is (t q n : Int) (w : World) (h5 : -2048 ≤ t) (h6 : t ≤ 2047) (h3 : 1 ≤ q) (h4 : q ≤ 31) (hn : n = best t q 127) :
    Calls Try.prog 19 #[.int .i64 t, .int .i64 q] w fun e w' => e = .returned (.tuple #[.int .i64 n, .int .i64 0]) ∧ Below w.heap.size w w' := by
  subst hn; exact near_yes t q w h5 h6 h3 h4

set_option maxRecDepth 100000 in
set_option maxHeartbeats 1000000 in
theorem nearlaw_walk (c a b t l q n x y m A B N L : Int) (w : World) (h0 : t = c % 4096 - 2048) (h1 : l = a % 255 - 127) (h2 : q = 1 + b % 31)
    (hn : n = best t q 127) (hx : x = val n q) (hy : y = val l q) (hm : m = best y q 127) (hz : y = val m q)
    (bx : -2048 ≤ x ∧ x ≤ 2047) (bY : -2048 ≤ y ∧ y ≤ 2047) (bn : -127 ≤ n ∧ n ≤ 127) (bm : -127 ≤ m ∧ m ≤ 127)
    (fa : (if x - t < t - x then t - x else x - t) = A) (fb : (if y - t < t - y then t - y else y - t) = B) (fn : (if n < -n then -n else n) = N) (fl : (if l < -l then -l else l) = L)
    (hd : A < B ∨ (A = B ∧ N ≤ L)) :
    Calls Try.prog 7 #[.int .i64 c, .int .i64 a, .int .i64 b] w fun e w' => e = .returned (.bool true) ∧ Below w.heap.size w w' := by
  have hb := Below.refl w.heap.size w
  have m1 := Int.emod_nonneg a (show (255 : Int) ≠ 0 by omega)
  have m2 := Int.emod_lt_of_pos a (show (0 : Int) < 255 by omega)
  have m3 := Int.emod_nonneg b (show (31 : Int) ≠ 0 by omega)
  have m4 := Int.emod_lt_of_pos b (show (0 : Int) < 31 by omega)
  have m5 := Int.emod_nonneg c (show (4096 : Int) ≠ 0 by omega)
  have m6 := Int.emod_lt_of_pos c (show (0 : Int) < 4096 by omega)
  have ok1 : okB l q = true := okB_mk (by omega) (by omega) (by omega) (by omega)
  have ok2 : okB n q = true := okB_mk (by omega) (by omega) (by omega) (by omega)
  have ok3 : okB m q = true := okB_mk (by omega) (by omega) (by omega) (by omega)
  have bl : -127 ≤ l ∧ l ≤ 127 := by omega
  have bq : 1 ≤ q ∧ q ≤ 31 := by omega
  have bt : -2048 ≤ t ∧ t ≤ 2047 := by omega
  have e1 : c % 4096 - 2048 = t := h0.symm
  have OK1 := Lib.hid ok1
  have OK2 := Lib.hid ok2
  have OK3 := Lib.hid ok3
  have H1 := Lib.hid h1
  have H2 := Lib.hid h2
  have HN := Lib.hid hn
  have HX := Lib.hid hx
  have HY := Lib.hid hy
  have HM := Lib.hid hm
  have HZ := Lib.hid hz
  clear ok1 ok2 ok3 h0 h1 h2 hn hx hy hm hz m1 m2 m3 m4
  have d1 : decide (A ≤ B) = true := by simp; omega
  have BA : 0 ≤ A ∧ 0 ≤ B := by rw [← fa, ← fb]; split <;> split <;> omega
  rcases hd with hd | ⟨hd1, hd2⟩
  · have d2 : decide (A < B) = true := by simp; omega
    clear hd
    go_enter Try.func7, Try.ntmps7
    go_wp2_with (first
      | (go_at_call 4; refine (known_true _).mono ?_; rintro e w1 ⟨rfl, hw⟩; have hb := hb.trans (hw.mono hb.size))
      | (go_at_call 25; refine (of_is _ _ _ _ _ H1.out H2.out).mono ?_; rintro e w1 ⟨rfl, rfl⟩)
      | (go_at_call 26; refine (Pick_any _ _ _ (by omega) (by omega)).mono ?_; rintro e w1 ⟨rfl, rfl⟩)
      | (go_at_call 19; with_reducible refine (near_is t q _ _ bt.1 bt.2 bq.1 bq.2 HN.out).mono ?_; rintro e w1 ⟨rfl, hw⟩; have hb := hb.trans (hw.mono hb.size))
      | (go_at_call 19; with_reducible refine (near_is y q _ _ bY.1 bY.2 bq.1 bq.2 HM.out).mono ?_; rintro e w1 ⟨rfl, hw⟩; have hb := hb.trans (hw.mono hb.size))
      | (go_at_call 15; with_reducible refine (value_is l q _ _ OK1.out HY.out).mono ?_; rintro e w1 ⟨rfl, hw⟩; have hb := hb.trans (hw.mono hb.size))
      | (go_at_call 15; with_reducible refine (value_is n q _ _ OK2.out HX.out).mono ?_; rintro e w1 ⟨rfl, hw⟩; have hb := hb.trans (hw.mono hb.size))
      | (go_at_call 15; with_reducible refine (value_is m q _ _ OK3.out HZ.out).mono ?_; rintro e w1 ⟨rfl, hw⟩; have hb := hb.trans (hw.mono hb.size)))
    go_ret
    exact ⟨rfl, hb⟩
  · have d2 : decide (A < B) = false := by simp; omega
    have d3 : decide (N ≤ L) = true := by simp; omega
    clear hd1 hd2
    go_enter Try.func7, Try.ntmps7
    go_wp2_with (first
      | (go_at_call 4; refine (known_true _).mono ?_; rintro e w1 ⟨rfl, hw⟩; have hb := hb.trans (hw.mono hb.size))
      | (go_at_call 25; refine (of_is _ _ _ _ _ H1.out H2.out).mono ?_; rintro e w1 ⟨rfl, rfl⟩)
      | (go_at_call 26; refine (Pick_any _ _ _ (by omega) (by omega)).mono ?_; rintro e w1 ⟨rfl, rfl⟩)
      | (go_at_call 19; with_reducible refine (near_is t q _ _ bt.1 bt.2 bq.1 bq.2 HN.out).mono ?_; rintro e w1 ⟨rfl, hw⟩; have hb := hb.trans (hw.mono hb.size))
      | (go_at_call 19; with_reducible refine (near_is y q _ _ bY.1 bY.2 bq.1 bq.2 HM.out).mono ?_; rintro e w1 ⟨rfl, hw⟩; have hb := hb.trans (hw.mono hb.size))
      | (go_at_call 15; with_reducible refine (value_is l q _ _ OK1.out HY.out).mono ?_; rintro e w1 ⟨rfl, hw⟩; have hb := hb.trans (hw.mono hb.size))
      | (go_at_call 15; with_reducible refine (value_is n q _ _ OK2.out HX.out).mono ?_; rintro e w1 ⟨rfl, hw⟩; have hb := hb.trans (hw.mono hb.size))
      | (go_at_call 15; with_reducible refine (value_is m q _ _ OK3.out HZ.out).mono ?_; rintro e w1 ⟨rfl, hw⟩; have hb := hb.trans (hw.mono hb.size)))
    go_ret
    exact ⟨rfl, hb⟩

theorem QuantNear_walk (c a b : Int) (w : World) (_ : (Lit.int .i64 c).wf = true) (_ : (Lit.int .i64 a).wf = true) (_ : (Lit.int .i64 b).wf = true) :
    Calls Try.prog 7 #[.int .i64 c, .int .i64 a, .int .i64 b] w fun e w' => e = .returned (.bool true) ∧ Below w.heap.size w w' := by
  have m1 := Int.emod_nonneg a (show (255 : Int) ≠ 0 by omega)
  have m2 := Int.emod_lt_of_pos a (show (0 : Int) < 255 by omega)
  have m3 := Int.emod_nonneg b (show (31 : Int) ≠ 0 by omega)
  have m4 := Int.emod_lt_of_pos b (show (0 : Int) < 31 by omega)
  obtain ⟨l, hl⟩ : ∃ l, l = a % 255 - 127 := ⟨_, rfl⟩
  obtain ⟨q, hq⟩ : ∃ q, q = 1 + b % 31 := ⟨_, rfl⟩
  obtain ⟨t, ht⟩ : ∃ t, t = c % 4096 - 2048 := ⟨_, rfl⟩
  have hq1 : 1 ≤ q := by omega
  have b1 := best_bd t q 127
  have b2 := best_bd (val l q) q 127
  refine nearlaw_walk c a b t l q _ _ _ _ _ _ _ _ w ht hl hq rfl rfl rfl rfl (best_val q l (by omega) (by omega)).symm (val_bd _ q hq1) (val_bd l q hq1) (by omega) (by omega) rfl rfl rfl rfl ?_
  have h := best_near t q 127 l (by omega) (by omega)
  unfold far at h
  omega
end Qu
end Go.Proofs.Ytkajfabmdljffaa
