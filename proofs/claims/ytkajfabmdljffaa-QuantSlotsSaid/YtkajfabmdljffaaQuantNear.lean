/- Which level is nearest: quant.Nearest, its closure, and the document's. -/
import Derived.Test.YtkajfabmdljffaaQuant
import Derived.Deep.LoopGhost
namespace Go.Proofs.Ytkajfabmdljffaa
open Go.RowKit
namespace Qu

theorem nearOk_yes {t q : Int} (h : nearOkB t q = true) : (-2048 ≤ t ∧ t ≤ 2047) ∧ 1 ≤ q ∧ q ≤ 31 := by
  unfold nearOkB at h; simp only [decide_eq_true_eq] at h; omega
theorem nearOk_no {t q : Int} (h : nearOkB t q = false) : t < -2048 ∨ 2047 < t ∨ (-2048 ≤ t ∧ t ≤ 2047 ∧ q < 1) ∨ (-2048 ≤ t ∧ t ≤ 2047 ∧ 31 < q) := by
  unfold nearOkB at h; simp only [decide_eq_false_iff_not] at h; omega

theorem within_yes (n a b : Int) (w : World) (h1 : a ≤ n) (h2 : n ≤ b) :
    Calls Try.prog 45 #[.int .i64 n, .int .i64 a, .int .i64 b] w fun e w' => e = .returned (.bool true) ∧ w = w' := by
  have _d2 : decide (n ≤ b) = true := by simp; omega
  go_enter Try.func45, Try.ntmps45
  go_wp2
  go_ret
  exact ⟨rfl, rfl⟩

theorem far_any (t q l : Int) (a b : Nat) (w : World) (ha : w.cell? ⟨a, 0, none⟩ = some (.int .i64 q)) (hb : w.cell? ⟨b, 0, none⟩ = some (.int .i64 t))
    (h1 : -127 ≤ l) (h2 : l ≤ 127) (h3 : 1 ≤ q) (h4 : q ≤ 31) (h5 : -2048 ≤ t) (h6 : t ≤ 2047) :
    Calls Try.prog 50 #[.int .i64 l, .pointer (some ⟨a, 0, none⟩), .pointer (some ⟨b, 0, none⟩)] w fun e w' =>
      e = .returned (.int .i64 (far t q l)) ∧ Below w.heap.size w w' := by
  have hok : okB l q = true := by unfold okB; simp only [decide_eq_true_eq]; omega
  have hbd := val_bd l q h3
  have lb := World.block_lt_of_cell? w _ hb
  have HF : Hid (far t q l = max (val l q - t) (t - val l q)) := rfl
  have HO := Lib.hid hok
  clear hok
  go_enter Try.func50, Try.ntmps50
  go_wp2_with (go_at_call 15; refine (value_yes _ _ _ HO.out).mono ?_; rintro e w1 ⟨rfl, hw⟩; obtain ⟨hc, hf⟩ := bcell hw)
  all_goals
    go_ret
    exact ⟨ret_int (by rw [HF.out]; omega), hw⟩

theorem idx0 (x y : Int) (w : World) : (Instr.index 59 (.agg #[.int .i64 x, .int .i64 y]) (.int .i64 0)).run Try.prog w = .ok (.int .i64 x) w := by kernel_rfl
theorem idx1 (x y : Int) (w : World) : (Instr.index 59 (.agg #[.int .i64 x, .int .i64 y]) (.int .i64 1)).run Try.prog w = .ok (.int .i64 y) w := by kernel_rfl

theorem best_succ (t q : Int) (m : Nat) : best t q (m + 1) = step t q (step t q (best t q m) (m + 1)) (-((m : Int) + 1)) := rfl
theorem step_yes {t q b l : Int} (h : far t q l < far t q b) : step t q b l = l := if_pos h
theorem step_no {t q b l : Int} (h : ¬ far t q l < far t q b) : step t q b l = b := if_neg h

set_option maxRecDepth 100000 in
set_option maxHeartbeats 800000 in
theorem near_yes (t q : Int) (w : World) (h5 : -2048 ≤ t) (h6 : t ≤ 2047) (h3 : 1 ≤ q) (h4 : q ≤ 31) :
    Calls Try.prog 19 #[.int .i64 t, .int .i64 q] w fun e w' => e = .returned (.tuple #[.int .i64 (best t q 127), .int .i64 0]) ∧ Below w.heap.size w w' := by
  go_enter Try.func19, Try.ntmps19
  go_wp2_with (go_at_call 45; refine (within_yes _ _ _ _ (by omega) (by omega)).mono ?_; rintro e w1 ⟨rfl, rfl⟩)
  go_loopw [7, 8] (fun b m wr => ∃ k : Nat, k ≤ 127 ∧ m = .int .i64 (k + 1) ∧ b = .int .i64 (best t q k) ∧
      wr.cell? ⟨w.heap.size, 0, none⟩ = some (.int .i64 t) ∧ wr.cell? ⟨w.heap.size + 1, 0, none⟩ = some (.int .i64 q) ∧ w.heap.size + 1 < wr.heap.size ∧ Below w.heap.size w wr)
    (fun _ m _ => 128 - (intOf m).toNat)
  case atStart => exact ⟨0, by omega, rfl, rfl, by simp, by simp, by simp, ((Below.refl _ _).alloc (Nat.le_refl _) _).alloc (by simp) _⟩
  case round =>
    obtain ⟨k, hk, rfl, rfl, hct, hcq, hsz, hbel⟩ := hrel
    have hbd := best_bd t q k
    by_cases hlt : k < 127
    · have HS := Lib.hid (best_succ t q k)
      have i0 := idx0
      have i1 := idx1
      go_wp2_with fail
      refine wp_loop_rounds 3 ?_
      rw [rounds_succ]
      go_wp2_with (go_at_call 50; refine (far_any t q _ _ _ _ (by assumption) (by assumption) (by omega) (by omega) h3 h4 h5 h6).mono ?_; rintro e w1 ⟨rfl, hw⟩; have hct := (hw.cell (p := ⟨w.heap.size, 0, none⟩) (by simp; omega)).trans hct; have hcq := (hw.cell (p := ⟨w.heap.size + 1, 0, none⟩) (by simp; omega)).trans hcq; have hbel := hbel.trans (hw.mono hbel.size); have hsz := Nat.lt_of_lt_of_le hsz hw.size)
      all_goals
        rw [rounds_succ]
        go_wp2_with (go_at_call 50; refine (far_any t q _ _ _ _ (by assumption) (by assumption) (by omega) (by omega) h3 h4 h5 h6).mono ?_; rintro e w1 ⟨rfl, hw⟩; have hct := (hw.cell (p := ⟨w.heap.size, 0, none⟩) (by simp; omega)).trans hct; have hcq := (hw.cell (p := ⟨w.heap.size + 1, 0, none⟩) (by simp; omega)).trans hcq; have hbel := hbel.trans (hw.mono hbel.size); have hsz := Nat.lt_of_lt_of_le hsz hw.size)
      all_goals
        rw [rounds_succ]
        go_wp2
        go_roundw
        case rel => exact ⟨k + 1, by omega, by go_num, by rw [HS.out]; first | rw [step_yes (b := best t q k) ‹_›, step_yes ‹_›] | rw [step_yes (b := best t q k) ‹_›, step_no (by omega)] | rw [step_no (b := best t q k) (by omega), step_yes ‹_›] | rw [step_no (b := best t q k) (by omega), step_no (by omega)], hct, hcq, hsz, hbel⟩
        case measure => simp [intOf]; omega
    · obtain rfl : k = 127 := by omega
      go_wp2
      go_ret2
      exact ⟨rfl, hbel⟩

theorem near_no (t q : Int) (w : World) (h : nearOkB t q = false) :
    Calls Try.prog 19 #[.int .i64 t, .int .i64 q] w fun e w' => e = .returned (.tuple #[.int .i64 0, .int .i64 3]) ∧ Below w.heap.size w w' := by
  rcases nearOk_no h with g | g | ⟨g1, g2, g⟩ | ⟨g1, g2, g⟩ <;> clear h
  · have _d : decide (-2048 ≤ t) = false := by simp; omega
    go_enter Try.func19, Try.ntmps19
    go_wp2
    go_ret2
    exact ⟨rfl, ((Below.refl _ _).alloc (Nat.le_refl _) _).alloc (by simp) _⟩
  · have _d : decide (t ≤ 2047) = false := by simp; omega
    go_enter Try.func19, Try.ntmps19
    go_wp2
    go_ret2
    exact ⟨rfl, ((Below.refl _ _).alloc (Nat.le_refl _) _).alloc (by simp) _⟩
  · have _d : decide (1 ≤ q) = false := by simp; omega
    have _d2 : decide (t ≤ 2047) = true := by simp; omega
    go_enter Try.func19, Try.ntmps19
    go_wp2
    go_ret2
    exact ⟨rfl, ((Below.refl _ _).alloc (Nat.le_refl _) _).alloc (by simp) _⟩
  · have _d : decide (q ≤ 31) = false := by simp; omega
    have _d2 : decide (t ≤ 2047) = true := by simp; omega
    go_enter Try.func19, Try.ntmps19
    go_wp2
    go_ret2
    exact ⟨rfl, ((Below.refl _ _).alloc (Nat.le_refl _) _).alloc (by simp) _⟩

/-- quant.Nearest at any numbers. -/
theorem Nearest_any (t q : Int) (w : World) :
    Calls Try.prog 19 #[.int .i64 t, .int .i64 q] w fun e w' => e = .returned (.tuple #[.int .i64 (nV t q), .int .i64 (nE t q)]) ∧ Below w.heap.size w w' := by
  cases h : nearOkB t q
  · have e1 : nV t q = 0 := by unfold nV; rw [h]; rfl
    have e2 : nE t q = 3 := by unfold nE; rw [h]; rfl
    rw [e1, e2]; exact near_no t q w h
  · have e1 : nV t q = best t q 127 := by unfold nV; rw [h]; rfl
    have e2 : nE t q = 0 := by unfold nE; rw [h]; rfl
    obtain ⟨⟨h1, h2⟩, h3, h4⟩ := nearOk_yes h
    rw [e1, e2]; exact near_yes t q w h1 h2 h3 h4
end Qu
end Go.Proofs.Ytkajfabmdljffaa
