/- pattern.Has, pattern.Count; macro.part. -/
import Derived.Test.YtbmglemjfodfhaaGreatMgPick
import Derived.Test.YtbmglemjfodfhaaGreatMgSlices
import Derived.BigQuiet
set_option linter.unusedVariables false
set_option linter.unusedSimpArgs false
namespace Go.Proofs.YtbmglemjfodfhaaGreat
open Go.RowKit
namespace Kd
def hasP (p b : Int) : Bool := decide (1 ≤ p) && decide (p ≤ 63) && decide (1 ≤ b) && decide (b ≤ 6) && (p / 2 ^ (6 - b).toNat % 2 == 1)
theorem hasP_no (p b : Int) (h : ¬ (1 ≤ p ∧ p ≤ 63 ∧ 1 ≤ b ∧ b ≤ 6)) : hasP p b = false := by
  unfold hasP
  by_cases h1 : 1 ≤ p <;> by_cases h2 : p ≤ 63 <;> by_cases h3 : 1 ≤ b <;> by_cases h4 : b ≤ 6 <;> simp [h1, h2, h3, h4]
  omega
theorem bit_and : ∀ p : Nat, p < 64 → ∀ b : Nat, b < 7 → 1 ≤ b → (bits .and .i64 (p : Int) ((2 ^ (6 - b) : Nat) : Int) != 0) = hasP p b ∨ p = 0 := by decide +kernel
theorem bit_int (p : Int) (h1 : 1 ≤ p) (h2 : p ≤ 63) (b : Nat) (h3 : 1 ≤ b) (h4 : b ≤ 6) : (bits .and .i64 p ((2 ^ (6 - b) : Nat) : Int) != 0) = hasP p b := by
  obtain ⟨n, rfl⟩ : ∃ n : Nat, p = n := ⟨p.toNat, by omega⟩
  rcases bit_and n (by omega) b (by omega) h3 with h | h
  · exact h
  · omega
set_option maxRecDepth 100000 in
set_option maxHeartbeats 1000000 in
theorem Has_any (p b : Int) (w : World) : Calls Tryz.prog 52 #[.int .i64 p, .int .i64 b] w fun e w' => e = .returned (.bool (hasP p b)) ∧ Below w.heap.size w w' := by
  by_cases h1 : 1 ≤ p
  · by_cases h2 : p ≤ 63
    · by_cases h3 : 1 ≤ b
      · by_cases h4 : b ≤ 6
        · rcases (by omega : b = 1 ∨ b = 2 ∨ b = 3 ∨ b = 4 ∨ b = 5 ∨ b = 6) with rfl | rfl | rfl | rfl | rfl | rfl
          · have hb : (bits .and .i64 p 32 != 0) = hasP p 1 := bit_int p h1 h2 1 (by omega) (by omega)
            obtain ⟨B, hB⟩ : ∃ B, hasP p 1 = B := ⟨_, rfl⟩
            rw [hB] at hb ⊢
            clear hB
            go_enter Tryz.func52, Tryz.ntmps52
            go_wp2
            go_ret
            exact ⟨rfl, (Below.refl _ _).alloc (Nat.le_refl _) _⟩
          · have hb : (bits .and .i64 p 16 != 0) = hasP p 2 := bit_int p h1 h2 2 (by omega) (by omega)
            obtain ⟨B, hB⟩ : ∃ B, hasP p 2 = B := ⟨_, rfl⟩
            rw [hB] at hb ⊢
            clear hB
            go_enter Tryz.func52, Tryz.ntmps52
            go_wp2
            go_ret
            exact ⟨rfl, (Below.refl _ _).alloc (Nat.le_refl _) _⟩
          · have hb : (bits .and .i64 p 8 != 0) = hasP p 3 := bit_int p h1 h2 3 (by omega) (by omega)
            obtain ⟨B, hB⟩ : ∃ B, hasP p 3 = B := ⟨_, rfl⟩
            rw [hB] at hb ⊢
            clear hB
            go_enter Tryz.func52, Tryz.ntmps52
            go_wp2
            go_ret
            exact ⟨rfl, (Below.refl _ _).alloc (Nat.le_refl _) _⟩
          · have hb : (bits .and .i64 p 4 != 0) = hasP p 4 := bit_int p h1 h2 4 (by omega) (by omega)
            obtain ⟨B, hB⟩ : ∃ B, hasP p 4 = B := ⟨_, rfl⟩
            rw [hB] at hb ⊢
            clear hB
            go_enter Tryz.func52, Tryz.ntmps52
            go_wp2
            go_ret
            exact ⟨rfl, (Below.refl _ _).alloc (Nat.le_refl _) _⟩
          · have hb : (bits .and .i64 p 2 != 0) = hasP p 5 := bit_int p h1 h2 5 (by omega) (by omega)
            obtain ⟨B, hB⟩ : ∃ B, hasP p 5 = B := ⟨_, rfl⟩
            rw [hB] at hb ⊢
            clear hB
            go_enter Tryz.func52, Tryz.ntmps52
            go_wp2
            go_ret
            exact ⟨rfl, (Below.refl _ _).alloc (Nat.le_refl _) _⟩
          · have hb : (bits .and .i64 p 1 != 0) = hasP p 6 := bit_int p h1 h2 6 (by omega) (by omega)
            obtain ⟨B, hB⟩ : ∃ B, hasP p 6 = B := ⟨_, rfl⟩
            rw [hB] at hb ⊢
            clear hB
            go_enter Tryz.func52, Tryz.ntmps52
            go_wp2
            go_ret
            exact ⟨rfl, (Below.refl _ _).alloc (Nat.le_refl _) _⟩
        · rw [hasP_no p b (by omega)]
          go_enter Tryz.func52, Tryz.ntmps52
          go_wp2
          go_ret
          exact ⟨rfl, (Below.refl _ _).alloc (Nat.le_refl _) _⟩
      · rw [hasP_no p b (by omega)]
        go_enter Tryz.func52, Tryz.ntmps52
        go_wp2
        go_ret
        exact ⟨rfl, (Below.refl _ _).alloc (Nat.le_refl _) _⟩
    · rw [hasP_no p b (by omega)]
      go_enter Tryz.func52, Tryz.ntmps52
      go_wp2
      go_ret
      exact ⟨rfl, (Below.refl _ _).alloc (Nat.le_refl _) _⟩
  · rw [hasP_no p b (by omega)]
    go_enter Tryz.func52, Tryz.ntmps52
    go_wp2
    go_ret
    exact ⟨rfl, (Below.refl _ _).alloc (Nat.le_refl _) _⟩
def cntP (p : Int) : Nat → Int
  | 0 => 0
  | k + 1 => cntP p k + if hasP p (k + 1) then 1 else 0
theorem cntP_bd (p : Int) : ∀ k, 0 ≤ cntP p k ∧ cntP p k ≤ k
  | 0 => by simp [cntP]
  | k + 1 => by
    have := cntP_bd p k
    unfold cntP
    split <;> omega
theorem Count_any (p : Int) (w : World) : Calls Tryz.prog 81 #[.int .i64 p] w fun e w' => e = .returned (.int .i64 (cntP p 6)) ∧ Below w.heap.size w w' := by
  go_enter Tryz.func81, Tryz.ntmps81
  go_wp2
  go_loopw [4, 2] (fun i c wr => ∃ k : Nat, k ≤ 6 ∧ i = .int .i64 k ∧ c = .int .i64 (cntP p k) ∧ Hid (Below w.heap.size w wr)) (fun i _ _ => 6 - (intOf i).toNat)
  case atStart => exact ⟨0, by omega, rfl, rfl, Lib.hid (Below.refl _ _)⟩
  case round =>
    obtain ⟨k, hk, rfl, rfl, HB⟩ := hrel
    by_cases hk6 : k < 6
    · have kb : (k : Int) < 6 := by omega
      have bd := cntP_bd p k
      have ek : IntKind.i64.wrap ((k : Int) + 1) = (k : Int) + 1 := IntWalk.i64_in _ (by omega)
      by_cases hh : hasP p ((k : Int) + 1) = true
      · have e2 : cntP p (k + 1) = cntP p k + 1 := by show cntP p k + (if hasP p ((k : Int) + 1) then 1 else 0) = _; rw [if_pos hh]
        have E2 := Lib.hid e2
        have HH := Lib.hid hh
        clear e2 hh
        obtain ⟨c, hc⟩ : ∃ c, cntP p k = c := ⟨_, rfl⟩
        rw [hc] at bd
        have HC := Lib.hid hc
        try rw [hc]
        clear hc
        go_wp2_with (go_at_call 52; refine (Has_any _ _ _).mono ?_; rintro e w1 ⟨rfl, h1⟩; rw [HH.out]; have HB := Lib.hid (chain HB.out h1); clear h1)
        go_roundw
        case rel => exact ⟨k + 1, by omega, by go_num, by rw [E2.out, HC.out] <;> go_num, HB⟩
        case measure => simp [intOf]; omega
      · have hh : hasP p ((k : Int) + 1) = false := by simpa using hh
        have e2 : cntP p (k + 1) = cntP p k := by show cntP p k + (if hasP p ((k : Int) + 1) then 1 else 0) = _; rw [hh]; simp
        have E2 := Lib.hid e2
        have HH := Lib.hid hh
        clear e2 hh
        go_wp2_with (go_at_call 52; refine (Has_any _ _ _).mono ?_; rintro e w1 ⟨rfl, h1⟩; rw [HH.out]; have HB := Lib.hid (chain HB.out h1); clear h1)
        go_roundw
        case rel => exact ⟨k + 1, by omega, by go_num, by rw [E2.out], HB⟩
        case measure => simp [intOf]; omega
    · obtain rfl : k = 6 := by omega
      have kb : ¬ (((6 : Nat) : Int) < 6) := by omega
      go_wp2
      go_ret
      exact ⟨rfl, HB.out⟩
theorem mpart_any (x : Int) (w : World) : Calls Tryz.prog 80 #[.int .i64 x] w fun e w' => e = .returned (.bool (decide (-15 ≤ x ∧ x ≤ 15))) ∧ w = w' := by
  by_cases h1 : -15 ≤ x
  · by_cases h2 : x ≤ 15
    · rw [show decide (-15 ≤ x ∧ x ≤ 15) = true by simp; omega]
      go_enter Tryz.func80, Tryz.ntmps80
      go_wp2
      go_ret
      exact ⟨rfl, rfl⟩
    · rw [show decide (-15 ≤ x ∧ x ≤ 15) = false by simp; omega]
      go_enter Tryz.func80, Tryz.ntmps80
      go_wp2
      go_ret
      exact ⟨rfl, rfl⟩
  · rw [show decide (-15 ≤ x ∧ x ≤ 15) = false by simp; omega]
    go_enter Tryz.func80, Tryz.ntmps80
    go_wp2
    go_ret
    exact ⟨rfl, rfl⟩
end Kd
end Go.Proofs.YtbmglemjfodfhaaGreat
