/- Bits of numbers, as bytes. -/
import Derived.Test.YtpibeocngkjolaaGreatDoorMgCfB
import Derived.Laws.OwnMore
set_option linter.unusedVariables false
set_option linter.unusedSimpArgs false

namespace Go.Proofs.YtpibeocngkjolaaGreatDoor
open Go.RowKit
set_option linter.unusedSimpArgs false
set_option linter.unusedVariables false
namespace Cf
/-- bit i, of the first k. -/
def hB (f : Nat → Int) (k i : Nat) : Int := if i < k then f i % 2 else 0
theorem hB_01 (f : Nat → Int) (k i : Nat) : hB f k i = 0 ∨ hB f k i = 1 := by unfold hB; split <;> omega
def byV (f : Nat → Int) (k j : Nat) : Int := 128 * hB f k (8 * j) + 64 * hB f k (8 * j + 1) + 32 * hB f k (8 * j + 2) + 16 * hB f k (8 * j + 3) + 8 * hB f k (8 * j + 4) + 4 * hB f k (8 * j + 5) + 2 * hB f k (8 * j + 6) + hB f k (8 * j + 7)
theorem hB_in (f : Nat → Int) (k i : Nat) : 0 ≤ hB f k i ∧ hB f k i ≤ 1 := by rcases hB_01 f k i with h | h <;> rw [h] <;> decide
theorem byV_bd (f : Nat → Int) (k j : Nat) : 0 ≤ byV f k j ∧ byV f k j ≤ 255 := by
  unfold byV
  have h0 := hB_in f k (8 * j)
  have h1 := hB_in f k (8 * j + 1)
  have h2 := hB_in f k (8 * j + 2)
  have h3 := hB_in f k (8 * j + 3)
  have h4 := hB_in f k (8 * j + 4)
  have h5 := hB_in f k (8 * j + 5)
  have h6 := hB_in f k (8 * j + 6)
  have h7 := hB_in f k (8 * j + 7)
  omega
theorem bit8 (x : Nat → Int) (h : ∀ t, x t = 0 ∨ x t = 1) : ∀ r, r < 8 → ((128 * x 0 + 64 * x 1 + 32 * x 2 + 16 * x 3 + 8 * x 4 + 4 * x 5 + 2 * x 6 + x 7) / 2 ^ (7 - r)) % 2 = x r := by
  intro r hr
  have h0 := h 0
  have h1 := h 1
  have h2 := h 2
  have h3 := h 3
  have h4 := h 4
  have h5 := h 5
  have h6 := h 6
  have h7 := h 7
  generalize e0 : x 0 = a0 at *
  generalize e1 : x 1 = a1 at *
  generalize e2 : x 2 = a2 at *
  generalize e3 : x 3 = a3 at *
  generalize e4 : x 4 = a4 at *
  generalize e5 : x 5 = a5 at *
  generalize e6 : x 6 = a6 at *
  generalize e7 : x 7 = a7 at *
  have g0 : 0 ≤ a0 ∧ a0 ≤ 1 := by rcases h0 with h | h <;> rw [h] <;> decide
  have g1 : 0 ≤ a1 ∧ a1 ≤ 1 := by rcases h1 with h | h <;> rw [h] <;> decide
  have g2 : 0 ≤ a2 ∧ a2 ≤ 1 := by rcases h2 with h | h <;> rw [h] <;> decide
  have g3 : 0 ≤ a3 ∧ a3 ≤ 1 := by rcases h3 with h | h <;> rw [h] <;> decide
  have g4 : 0 ≤ a4 ∧ a4 ≤ 1 := by rcases h4 with h | h <;> rw [h] <;> decide
  have g5 : 0 ≤ a5 ∧ a5 ≤ 1 := by rcases h5 with h | h <;> rw [h] <;> decide
  have g6 : 0 ≤ a6 ∧ a6 ≤ 1 := by rcases h6 with h | h <;> rw [h] <;> decide
  have g7 : 0 ≤ a7 ∧ a7 ≤ 1 := by rcases h7 with h | h <;> rw [h] <;> decide
  clear h0 h1 h2 h3 h4 h5 h6 h7 h
  have hr8 : r = 0 ∨ r = 1 ∨ r = 2 ∨ r = 3 ∨ r = 4 ∨ r = 5 ∨ r = 6 ∨ r = 7 := by omega
  rcases hr8 with rfl | rfl | rfl | rfl | rfl | rfl | rfl | rfl <;> simp only [Nat.reduceSub, Int.reducePow, e0, e1, e2, e3, e4, e5, e6, e7] <;> omega
theorem bit_byV (f : Nat → Int) (k i : Nat) : bitI (byV f k) i = hB f k i := by
  have h := bit8 (fun t => hB f k (8 * (i / 8) + t)) (fun t => hB_01 f k _) (i % 8) (Nat.mod_lt _ (by decide))
  simp only [Nat.add_zero] at h
  unfold bitI byV
  rw [h, show 8 * (i / 8) + i % 8 = i by omega]
theorem byV_0 (f : Nat → Int) (j : Nat) : byV f 0 j = 0 := by simp [byV, hB]
theorem hB_even {f : Nat → Int} {k : Nat} (h : f k % 2 = 0) (i : Nat) : hB f (k + 1) i = hB f k i := by
  unfold hB
  by_cases e : i = k
  · subst e; rw [if_pos (by omega), if_neg (by omega), h]
  · by_cases l : i < k
    · rw [if_pos (by omega), if_pos l]
    · rw [if_neg (by omega), if_neg l]
theorem hB_odd {f : Nat → Int} {k : Nat} (h : f k % 2 = 1) (i : Nat) : hB f (k + 1) i = hB f k i + if i = k then 1 else 0 := by
  unfold hB
  by_cases e : i = k
  · subst e; rw [if_pos (by omega), if_neg (by omega), h, if_pos rfl]; rfl
  · rw [if_neg e]
    by_cases l : i < k
    · rw [if_pos (by omega), if_pos l]; omega
    · rw [if_neg (by omega), if_neg l]; rfl
theorem byV_even {f : Nat → Int} {k : Nat} (h : f k % 2 = 0) (j : Nat) : byV f (k + 1) j = byV f k j := by
  unfold byV
  simp only [hB_even h]
theorem byV_odd {f : Nat → Int} {k : Nat} (h : f k % 2 = 1) (j : Nat) : byV f (k + 1) j = if j = k / 8 then byV f k j + 2 ^ (7 - k % 8) else byV f k j := by
  unfold byV
  simp only [hB_odd h]
  by_cases e : j = k / 8
  · rw [if_pos e]
    have hr : k % 8 = 0 ∨ k % 8 = 1 ∨ k % 8 = 2 ∨ k % 8 = 3 ∨ k % 8 = 4 ∨ k % 8 = 5 ∨ k % 8 = 6 ∨ k % 8 = 7 := by omega
    have ek : k = 8 * j + k % 8 := by omega
    rcases hr with h | h | h | h | h | h | h | h <;> rw [h] at ek ⊢ <;> subst ek <;> simp <;> omega
  · rw [if_neg e]
    rw [if_neg (by omega), if_neg (by omega), if_neg (by omega), if_neg (by omega), if_neg (by omega), if_neg (by omega), if_neg (by omega), if_neg (by omega)]
    omega
theorem u8_or_nat (a b : Nat) (ha : a < 256) (hb : b < 256) : bits .or .u8 (a : Int) (b : Int) = ((a ||| b : Nat) : Int) := by
  have hx : a ||| b < 2 ^ 8 := Nat.or_lt_two_pow (by omega) (by omega)
  have ea : (BitVec.ofInt 8 (a : Int)).toNat = a := by rw [BitVec.toNat_ofInt]; omega
  have eb : (BitVec.ofInt 8 (b : Int)).toNat = b := by rw [BitVec.toNat_ofInt]; omega
  show IntKind.u8.wrap ((BitVec.ofInt 8 (a : Int) ||| BitVec.ofInt 8 (b : Int)).toNat : Int) = _
  rw [BitVec.toNat_or, ea, eb]
  exact IntWalk.u8_in _ (by omega)
theorem hB_beyond {f : Nat → Int} {k i : Nat} (h : k ≤ i) : hB f k i = 0 := by unfold hB; rw [if_neg (by omega)]
/-- the new bit lies below all that were set. -/
theorem byV_or (f : Nat → Int) (k q r : Nat) (hk : k = 8 * q + r) (hr : r < 8) : bits .or .u8 (byV f k q) (2 ^ (7 - r)) = byV f k q + 2 ^ (7 - r) := by
  have hb := byV_bd f k q
  obtain ⟨m, hm⟩ : ∃ m : Nat, byV f k q = ((2 ^ (8 - r) * m : Nat) : Int) := by
    have h0 := hB_in f k (8 * q)
    have h1 := hB_in f k (8 * q + 1)
    have h2 := hB_in f k (8 * q + 2)
    have h3 := hB_in f k (8 * q + 3)
    have h4 := hB_in f k (8 * q + 4)
    have h5 := hB_in f k (8 * q + 5)
    have h6 := hB_in f k (8 * q + 6)
    have z : ∀ t, r ≤ t → hB f k (8 * q + t) = 0 := fun t ht => hB_beyond (by omega)
    refine ⟨(byV f k q / 2 ^ (8 - r)).toNat, ?_⟩
    rcases (by omega : r = 0 ∨ r = 1 ∨ r = 2 ∨ r = 3 ∨ r = 4 ∨ r = 5 ∨ r = 6 ∨ r = 7) with rfl | rfl | rfl | rfl | rfl | rfl | rfl | rfl
    · have a0 := z 0 (by omega); have a1 := z 1 (by omega); have a2 := z 2 (by omega); have a3 := z 3 (by omega); have a4 := z 4 (by omega); have a5 := z 5 (by omega); have a6 := z 6 (by omega); have a7 := z 7 (by omega)
      unfold byV at hb ⊢
      simp only [Nat.add_zero, Nat.reduceSub, Nat.reducePow, Int.reducePow] at *
      omega
    · have a1 := z 1 (by omega); have a2 := z 2 (by omega); have a3 := z 3 (by omega); have a4 := z 4 (by omega); have a5 := z 5 (by omega); have a6 := z 6 (by omega); have a7 := z 7 (by omega)
      unfold byV at hb ⊢
      simp only [Nat.add_zero, Nat.reduceSub, Nat.reducePow, Int.reducePow] at *
      omega
    · have a2 := z 2 (by omega); have a3 := z 3 (by omega); have a4 := z 4 (by omega); have a5 := z 5 (by omega); have a6 := z 6 (by omega); have a7 := z 7 (by omega)
      unfold byV at hb ⊢
      simp only [Nat.add_zero, Nat.reduceSub, Nat.reducePow, Int.reducePow] at *
      omega
    · have a3 := z 3 (by omega); have a4 := z 4 (by omega); have a5 := z 5 (by omega); have a6 := z 6 (by omega); have a7 := z 7 (by omega)
      unfold byV at hb ⊢
      simp only [Nat.add_zero, Nat.reduceSub, Nat.reducePow, Int.reducePow] at *
      omega
    · have a4 := z 4 (by omega); have a5 := z 5 (by omega); have a6 := z 6 (by omega); have a7 := z 7 (by omega)
      unfold byV at hb ⊢
      simp only [Nat.add_zero, Nat.reduceSub, Nat.reducePow, Int.reducePow] at *
      omega
    · have a5 := z 5 (by omega); have a6 := z 6 (by omega); have a7 := z 7 (by omega)
      unfold byV at hb ⊢
      simp only [Nat.add_zero, Nat.reduceSub, Nat.reducePow, Int.reducePow] at *
      omega
    · have a6 := z 6 (by omega); have a7 := z 7 (by omega)
      unfold byV at hb ⊢
      simp only [Nat.add_zero, Nat.reduceSub, Nat.reducePow, Int.reducePow] at *
      omega
    · have a7 := z 7 (by omega)
      unfold byV at hb ⊢
      simp only [Nat.add_zero, Nat.reduceSub, Nat.reducePow, Int.reducePow] at *
      omega
  have hlt : 2 ^ (7 - r) < 2 ^ (8 - r) := Nat.pow_lt_pow_right (by decide) (by omega)
  have hle : (2 : Nat) ^ (7 - r) ≤ 2 ^ 7 := Nat.pow_le_pow_right (by decide) (by omega)
  have hor := Nat.two_pow_add_eq_or_of_lt (i := 8 - r) (b := 2 ^ (7 - r)) hlt m
  have hcast : ((2 ^ (7 - r) : Nat) : Int) = (2 : Int) ^ (7 - r) := by push_cast; rfl
  rw [hm] at hb ⊢
  rw [← hcast, u8_or_nat _ _ (by omega) (by omega), ← hor]
  push_cast
  rfl
end Cf
end Go.Proofs.YtpibeocngkjolaaGreatDoor
