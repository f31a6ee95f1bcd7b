/- A number of some bits. -/
import Derived.Test.YteigdcbaojmfgaaDoorCfA
namespace Go.Proofs.YteigdcbaojmfgaaDoor
open Go.RowKit
set_option linter.unusedSimpArgs false
set_option linter.unusedVariables false
namespace Cf
section
set_option maxRecDepth 100000
set_option maxHeartbeats 4000000
set_option linter.unusedVariables false
theorem rRead_ok (v : Value) (N : Nat) (f : Nat → Int) (p n : Nat) (w : World) (hN : N ≤ 1000000) (hs : Sl .u8 w v N f) (hb : ∀ j, j < N → 0 ≤ f j ∧ f j ≤ 255) (hn : n ≤ 32) (hp : p + n ≤ 8 * N) :
    Calls Tryd.prog 34 #[v, .int .i64 p, .int .i64 n] w fun e w' => e = .returned (.tuple #[.int .i64 (rdV f p n), .int .i64 0]) ∧ w = w' := by
  have HBT := Lib.hid (fun i V h h2 => rbit_any v N f i V hN h hb h2)
  have HS := Lib.hid hs
  obtain ⟨a, c, rfl, _, _, _⟩ := hs
  have HC := Lib.hid (fun V => rCount_any a N c V hN)
  have p0 : ¬ (p : Int) < 0 := by omega
  have n0 : ¬ (n : Int) < 0 := by omega
  have n1 : ¬ (32 : Int) < (n : Int) := by omega
  have q1 : ¬ 8 * (N : Int) < (p : Int) := by omega
  have q2 : wrap64 (8 * (N : Int) - (p : Int)) = 8 * (N : Int) - (p : Int) := w64 (by omega)
  have q3 : ¬ 8 * (N : Int) - (p : Int) < (n : Int) := by omega
  clear hb
  go_enter Tryd.func34, Tryd.ntmps34
  go_wp2_with (go_at_call 55; refine (HC.out _).mono ?_; rintro e w1 ⟨rfl, rfl⟩)
  go_loopw [8, 9] (fun x i wr => ∃ k : Nat, k ≤ n ∧ x = .int .i64 (rdV f p k) ∧ i = .int .i64 k ∧ wr = w) (fun _ i _ => n - (intOf i).toNat)
  case atStart => exact ⟨0, Nat.zero_le _, rfl, rfl, rfl⟩
  case round =>
    obtain ⟨k, hk, rfl, rfl, rfl⟩ := hrel
    by_cases hkn : k < n
    · have t0 : (k : Int) < (n : Int) := by omega
      obtain ⟨x, hx⟩ : ∃ x, rdV f p k = x := ⟨_, rfl⟩
      have hv := rdV_32 f p k (by omega)
      rw [hx] at hv
      rw [hx]
      obtain ⟨y, hy⟩ : ∃ y, bitI f (p + k) = y := ⟨_, rfl⟩
      have h01 := bitI_01 f (p + k)
      rw [hy] at h01
      have HCL := HBT.out (p + k) wr HS.out (by omega)
      rw [hy, Int.natCast_add] at HCL
      have eo2 : Hid (rdV f p (k + 1) = 2 * x + y) := Lib.hid (by rw [rdV, hx, hy])
      have HCL' := Lib.hid HCL
      have ew : wrap64 (2 * x) = 2 * x := w64 (by omega)
      have ey := Lib.hid (show wrap64 (2 * x + y) = 2 * x + y from w64 (by omega))
      have ep : wrap64 ((p : Int) + (k : Int)) = (p : Int) + (k : Int) := w64 (by omega)
      clear hx hy HCL h01 hv
      go_wp2_with (go_at_call 56; refine HCL'.out.mono ?_; rintro e w1 ⟨rfl, rfl⟩)
      go_roundw
      case rel => exact ⟨k + 1, by omega, by rw [eo2.out]; first | rfl | rw [ey.out], by go_num, trivial⟩
      case measure => simp [intOf]; omega
    · have t0 : ¬ (k : Int) < (n : Int) := by omega
      obtain rfl : k = n := by omega
      clear hkn
      go_wp2_with fail
      go_ret2
      exact ⟨rfl, rfl⟩
end
end Cf
end Go.Proofs.YteigdcbaojmfgaaDoor
