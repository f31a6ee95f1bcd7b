/- The document's trees of codes: code, begins. -/
import Derived.Test.YteigdcbaojmfgaaDoorChC
namespace Go.Proofs.YteigdcbaojmfgaaDoor
open Go.RowKit
set_option linter.unusedSimpArgs false
set_option linter.unusedVariables false
namespace Cf
/-- does x begin with y? -/
def begB (x y : List UInt8) : Bool := decide (y.length ≤ x.length) && (x.take y.length == y)
theorem begB_iff (x y : List UInt8) : begB x y = true ↔ y <+: x := by
  unfold begB
  simp only [Bool.and_eq_true, decide_eq_true_eq, beq_iff_eq]
  constructor
  · rintro ⟨_, h⟩
    rw [← h]
    exact List.take_prefix _ _
  · intro h
    exact ⟨h.length_le, (List.prefix_iff_eq_take.1 h).symm⟩
def good01 (x : List UInt8) : Bool := x.all (fun c => c == 48 || c == 49)
section
set_option maxRecDepth 100000
set_option maxHeartbeats 4000000
set_option linter.unusedVariables false
theorem begins_any (x y : List UInt8) (w : World) : Calls Tryd.prog 66 #[sv x, sv y] w fun e w' => e = .returned (.bool (begB x y)) ∧ w = w' := by
  unfold sv
  have hx := ba_size x
  have hy := ba_size y
  have ex : ∀ m, (⟨x.toArray⟩ : ByteArray).extract 0 m = ⟨(x.take m).toArray⟩ := fun m => by rw [ba_extract, List.drop_zero]
  have hq : begB x y = (decide (y.length ≤ x.length) && ((⟨x.toArray⟩ : ByteArray).extract 0 y.length).toList == (⟨y.toArray⟩ : ByteArray).toList) := by
    unfold begB
    rw [ex, ByteArray.toList_mk, ByteArray.toList_mk]
  rw [hq]
  obtain ⟨N, hN⟩ : ∃ N, x.length = N := ⟨_, rfl⟩
  obtain ⟨M, hM⟩ : ∃ N, y.length = N := ⟨_, rfl⟩
  rw [hN, hM]
  obtain ⟨sx, hsx⟩ : ∃ s : ByteArray, (⟨x.toArray⟩ : ByteArray) = s := ⟨_, rfl⟩
  obtain ⟨sy, hsy⟩ : ∃ s : ByteArray, (⟨y.toArray⟩ : ByteArray) = s := ⟨_, rfl⟩
  rw [hsx, hN] at hx
  rw [hsy, hM] at hy
  rw [hsx, hsy]
  clear ex hq hsx hsy hN hM
  by_cases h : M ≤ N
  · have h1 : (M : Int) ≤ (N : Int) := by omega
    have h0 : (0 : Int) ≤ (M : Int) := by omega
    rw [decide_eq_true h, Bool.true_and]
    go_enter Tryd.func66, Tryd.ntmps66
    go_wp2_with fail
    go_ret
    exact ⟨rfl, rfl⟩
  · have h1 : ¬ (M : Int) ≤ (N : Int) := by omega
    rw [decide_eq_false h, Bool.false_and]
    go_enter Tryd.func66, Tryd.ntmps66
    go_wp2_with fail
    go_ret
    exact ⟨rfl, rfl⟩
theorem rgood_any (l : List Bool) (w : World) (h1 : 1 ≤ l.length) (h24 : l.length ≤ 24) : Calls Tryd.prog 65 #[sv (cs l)] w fun e w' => e = .returned (.bool true) ∧ w = w' := by
  unfold sv
  have hx := ba_size (cs l)
  rw [cs_len] at hx
  have hel : ∀ (j : Nat) (h : j < (⟨(cs l).toArray⟩ : ByteArray).size), (⟨(cs l).toArray⟩ : ByteArray)[j]'h = 48 ∨ (⟨(cs l).toArray⟩ : ByteArray)[j]'h = 49 := by
    intro j h
    have h2 : j < (cs l).length := h
    show (cs l)[j]'h2 = 48 ∨ (cs l)[j]'h2 = 49
    simp only [cs, List.getElem_map]
    generalize l[j]'_ = b
    cases b
    · exact .inl rfl
    · exact .inr rfl
  have HEL := Lib.hid hel
  obtain ⟨N, hN⟩ : ∃ N, l.length = N := ⟨_, rfl⟩
  rw [hN] at h1 h24 hx
  obtain ⟨sx, hsx⟩ : ∃ s : ByteArray, (⟨(cs l).toArray⟩ : ByteArray) = s := ⟨_, rfl⟩
  rw [hsx] at hx HEL ⊢
  clear hsx hN hel
  go_enter Tryd.func65, Tryd.ntmps65
  go_wp2_with fail
  go_loop [3] (fun i => ∃ k : Nat, k ≤ N ∧ i = .int .i64 k) (fun i => N - (intOf i).toNat)
  case atStart => exact ⟨0, by omega, rfl⟩
  case round =>
    obtain ⟨k, hk, rfl⟩ := hrel
    by_cases hkN : k < N
    · have t1 : (k : Int) < (N : Int) := by omega
      have he := HEL.out k (by omega)
      by_cases e48 : sx[k]'(by omega) = 48
      · have hch : ∀ h : k < sx.size, sx[k]'h = 48 := fun _ => e48
        clear he e48
        go_wp2_with fail
        go_round
        case rel => exact ⟨k + 1, by omega, by go_num⟩
        case measure => simp [intOf]; omega
      · have hch : ∀ h : k < sx.size, sx[k]'h = 49 := fun _ => he.resolve_left e48
        clear he e48
        go_wp2_with fail
        go_round
        case rel => exact ⟨k + 1, by omega, by go_num⟩
        case measure => simp [intOf]; omega
    · obtain rfl : k = N := by omega
      have t1 : ¬ (k : Int) < (k : Int) := by omega
      have t2 : (1 : Int) ≤ (k : Int) := by omega
      have t3 : (k : Int) ≤ 24 := by omega
      go_wp2_with fail
      go_ret
      exact ⟨rfl, rfl⟩
end
end Cf
end Go.Proofs.YteigdcbaojmfgaaDoor
