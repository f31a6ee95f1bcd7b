/- The document's Nearest comes to the same. -/
import Derived.Test.YtkajfabmdljffaaQuantNear
namespace Go.Proofs.Ytkajfabmdljffaa
open Go.RowKit
namespace Qu

theorem okB_mk {l q : Int} (h1 : -127 ≤ l) (h2 : l ≤ 127) (h3 : 1 ≤ q) (h4 : q ≤ 31) : okB l q = true := by unfold okB; simp only [decide_eq_true_eq]; omega
theorem far_if (t q l : Int) : (if val l q - t < t - val l q then t - val l q else val l q - t) = far t q l := by unfold far; omega
theorem bestR_succ (t q : Int) (m : Nat) : bestR t q (m + 1) = step t q (step t q (bestR t q m) (-((m : Int) + 1))) (m + 1) := rfl
theorem quantiser_yes (n : Int) (w : World) (h1 : 1 ≤ n) (h2 : n ≤ 31) :
    Calls Try.prog 49 #[.int .i64 n] w fun e w' => e = .returned (.bool true) ∧ w = w' := by
  have _d2 : decide (n ≤ 31) = true := by simp; omega
  go_enter Try.func49, Try.ntmps49
  go_wp2
  go_ret
  exact ⟨rfl, rfl⟩

set_option maxRecDepth 100000 in
set_option maxHeartbeats 800000 in
theorem rnear_yes (t q : Int) (w : World) (h5 : -2048 ≤ t) (h6 : t ≤ 2047) (h3 : 1 ≤ q) (h4 : q ≤ 31) (s : Bool) (hs : s = true → 0 ≤ t) (hs' : s = false → t < 0) :
    Calls Try.prog 20 #[.int .i64 t, .int .i64 q] w fun e w' => e = .returned (.tuple #[.int .i64 (bestR t q 127), .int .i64 0]) ∧ w = w' := by
  have hz : Hid (far t q (bestR t q 0) = max (0 - t) (t - 0)) := by
    show far t q 0 = _
    unfold far; rw [val_zero]
  have _d1 : decide (t < -2048) = false := by simp; omega
  have _d2 : decide (2047 < t) = false := by simp; omega
  cases s
  all_goals
    first | (have hsg := hs rfl; clear hs hs') | (have hsg := hs' rfl; clear hs hs')
    go_enter Try.func20, Try.ntmps20
    go_wp2_with (go_at_call 49; refine (quantiser_yes _ _ (by omega) (by omega)).mono ?_; rintro e w1 ⟨rfl, rfl⟩)
    go_loop [6, 7, 8] (fun b f m => ∃ k : Nat, k ≤ 127 ∧ m = .int .i64 (k + 1) ∧ b = .int .i64 (bestR t q k) ∧ f = .int .i64 (far t q (bestR t q k)))
      (fun _ _ m => 128 - (intOf m).toNat)
    case atStart => exact ⟨0, by omega, rfl, rfl, by rw [hz.out]; congr 1; omega⟩
    case round =>
      obtain ⟨k, hk, rfl, rfl, rfl⟩ := hrel
      by_cases hlt : k < 127
      · have HS := Lib.hid (bestR_succ t q k)
        have hb1 := val_bd (-((k : Int) + 1)) q h3
        have hb2 := val_bd ((k : Int) + 1) q h3
        have f1 := far_if t q (-((k : Int) + 1))
        have f2 := far_if t q ((k : Int) + 1)
        go_wp2_with fail
        refine wp_loop_rounds 3 ?_
        rw [rounds_succ]
        go_wp2_with (go_at_call 16; refine (rvalue_yes _ _ _ (okB_mk (by omega) (by omega) h3 h4)).mono ?_; rintro e w1 ⟨rfl, rfl⟩)
        all_goals
          rw [rounds_succ]
          go_wp2_with (go_at_call 16; refine (rvalue_yes _ _ _ (okB_mk (by omega) (by omega) h3 h4)).mono ?_; rintro e w1 ⟨rfl, rfl⟩)
        all_goals
          rw [rounds_succ]
          go_wp2
          go_round
          case rel => exact ⟨k + 1, by omega, by go_num, by rw [HS.out]; first | rw [step_yes (b := bestR t q k) ‹_›, step_yes ‹_›] | rw [step_yes (b := bestR t q k) ‹_›, step_no (by omega)] | rw [step_no (b := bestR t q k) (by omega), step_yes ‹_›] | rw [step_no (b := bestR t q k) (by omega), step_no (by omega)], by rw [HS.out]; first | rw [step_yes (b := bestR t q k) ‹_›, step_yes ‹_›] | rw [step_yes (b := bestR t q k) ‹_›, step_no (by omega)] | rw [step_no (b := bestR t q k) (by omega), step_yes ‹_›] | rw [step_no (b := bestR t q k) (by omega), step_no (by omega)]⟩
          case measure => simp [intOf]; omega
      · obtain rfl : k = 127 := by omega
        go_wp2
        go_ret2
        exact ⟨rfl, rfl⟩
end Qu
end Go.Proofs.Ytkajfabmdljffaa
