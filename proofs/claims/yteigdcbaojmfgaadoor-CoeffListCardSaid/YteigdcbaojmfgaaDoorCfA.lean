/- Bits of bytes: one bit; a number of some bits; the program's and the document's. -/
import Derived.Test.YteigdcbaojmfgaaDoorBytesB
namespace Go.Proofs.YteigdcbaojmfgaaDoor
open Go.RowKit
set_option linter.unusedSimpArgs false
set_option linter.unusedVariables false
namespace Cf

theorem ofInt_64 (a : Nat) (h : a < 18446744073709551616) : (BitVec.ofInt 64 (a : Int)).toNat = a := by
  rw [BitVec.toNat_ofInt]
  omega
theorem wrap_small (n : Nat) (h : n < 9223372036854775808) : IntKind.i64.wrap (n : Int) = (n : Int) := IntWalk.i64_in _ (by omega)
theorem i64_and_nat (a b : Nat) (ha : a < 9223372036854775808) (hb : b < 9223372036854775808) : bits .and .i64 (a : Int) (b : Int) = ((a &&& b : Nat) : Int) := by
  have hx : a &&& b < 2 ^ 63 := Nat.and_lt_two_pow _ (by omega)
  show IntKind.i64.wrap ((BitVec.ofInt 64 (a : Int) &&& BitVec.ofInt 64 (b : Int)).toNat : Int) = _
  rw [BitVec.toNat_and, ofInt_64 a (by omega), ofInt_64 b (by omega)]
  exact wrap_small _ (by omega)
theorem i64_or_nat (a b : Nat) (ha : a < 9223372036854775808) (hb : b < 9223372036854775808) : bits .or .i64 (a : Int) (b : Int) = ((a ||| b : Nat) : Int) := by
  have hx : a ||| b < 2 ^ 63 := Nat.or_lt_two_pow (by omega) (by omega)
  show IntKind.i64.wrap ((BitVec.ofInt 64 (a : Int) ||| BitVec.ofInt 64 (b : Int)).toNat : Int) = _
  rw [BitVec.toNat_or, ofInt_64 a (by omega), ofInt_64 b (by omega)]
  exact wrap_small _ (by omega)
theorem i64_and_1 (y : Int) (h0 : 0 ≤ y) (h1 : y < 9223372036854775808) : bits .and .i64 y 1 = y % 2 := by
  have h := i64_and_nat y.toNat 1 (by omega) (by omega)
  rw [show ((1 : Nat) : Int) = 1 from rfl, Int.toNat_of_nonneg h0] at h
  rw [h, show (1 : Nat) = 2 ^ 1 - 1 from rfl, Nat.and_two_pow_sub_one_eq_mod]
  omega
theorem i64_or_low (x y : Int) (h0 : 0 ≤ x) (h1 : x < 4611686018427387904) (hy : y = 0 ∨ y = 1) : bits .or .i64 (2 * x) y = 2 * x + y := by
  have h := i64_or_nat (2 * x.toNat) y.toNat (by omega) (by omega)
  have e1 : ((2 * x.toNat : Nat) : Int) = 2 * x := by omega
  have e2 : ((y.toNat : Nat) : Int) = y := by omega
  rw [e1, e2] at h
  rw [h]
  have : 2 * x.toNat ||| y.toNat = 2 * x.toNat + y.toNat := by
    have := Nat.two_pow_add_eq_or_of_lt (i := 1) (b := y.toNat) (by omega) x.toNat
    simpa using this.symm
  rw [this]
  omega
theorem w64 {x : Int} (h : -9223372036854775808 ≤ x ∧ x < 9223372036854775808) : wrap64 x = x := by unfold wrap64; omega
/-- bit i of bytes. -/
def bitI (f : Nat → Int) (i : Nat) : Int := (f (i / 8) / 2 ^ (7 - i % 8)) % 2
theorem bitI_01 (f : Nat → Int) (i : Nat) : bitI f i = 0 ∨ bitI f i = 1 := by unfold bitI; omega
/-- the number that k bits are. -/
def rdV (f : Nat → Int) (at_ : Nat) : Nat → Int
  | 0 => 0
  | k + 1 => 2 * rdV f at_ k + bitI f (at_ + k)
theorem rdV_bd (f : Nat → Int) (at_ : Nat) : ∀ k, 0 ≤ rdV f at_ k ∧ rdV f at_ k < 2 ^ k
  | 0 => by simp [rdV]
  | k + 1 => by
    have ih := rdV_bd f at_ k
    have := bitI_01 f (at_ + k)
    rw [rdV, Int.pow_succ]
    omega
theorem rdV_32 (f : Nat → Int) (at_ k : Nat) (h : k ≤ 32) : 0 ≤ rdV f at_ k ∧ rdV f at_ k < 4294967296 := by
  have := rdV_bd f at_ k
  have h2 : (2 : Int) ^ k ≤ 2 ^ 32 := by exact_mod_cast Nat.pow_le_pow_right (by decide) h
  omega
def rdE (N : Nat) (at_ n : Int) : Int := if at_ < 0 ∨ n < 0 ∨ 32 < n then 3 else if 8 * (N : Int) < at_ ∨ 8 * (N : Int) - at_ < n then 5 else 0
def rdX (f : Nat → Int) (N : Nat) (at_ n : Int) : Int := if rdE N at_ n = 0 then rdV f at_.toNat n.toNat else 0
section
set_option maxRecDepth 100000
set_option maxHeartbeats 4000000
set_option linter.unusedVariables false
theorem bit_any (v : Value) (N : Nat) (f : Nat → Int) (i : Nat) (w : World) (hN : N ≤ 1000000) (hs : Sl .u8 w v N f) (hb : ∀ j, j < N → 0 ≤ f j ∧ f j ≤ 255) (hi : i < 8 * N) :
    Calls Tryd.prog 59 #[v, .int .i64 i] w fun e w' => e = .returned (.int .i64 (bitI f i)) ∧ w = w' := by
  obtain ⟨a, c, rfl, h1, h2, h3⟩ := hs
  rcases h3 with ⟨h, _⟩ | ⟨b, o, rfl, hbl, hI⟩
  · omega
  have hc := hI (i / 8) (by omega)
  have hv := hb (i / 8) (by omega)
  unfold bitI
  obtain ⟨x, hx⟩ : ∃ x, f (i / 8) = x := ⟨_, rfl⟩
  rw [hx] at hc hv
  rw [hx]
  have hi8 : (i : Int) / 8 < (N : Int) := by omega
  have hi0 : (0 : Int) ≤ (i : Int) / 8 := by omega
  have hm : i % 8 < 8 := Nat.mod_lt _ (by decide)
  have ea : bits .and .i64 (i : Int) 7 = ((i % 8 : Nat) : Int) := by
    have h := i64_and_nat i 7 (by omega) (by omega)
    rw [show ((7 : Nat) : Int) = 7 from rfl] at h
    rw [h, show (7 : Nat) = 2 ^ 3 - 1 from rfl, Nat.and_two_pow_sub_one_eq_mod]
  obtain ⟨r, hr⟩ : ∃ r, i % 8 = r := ⟨_, rfl⟩
  rw [hr] at ea hm
  rw [hr]
  have hx0 := hv.1
  have hx1 := hv.2
  clear hI hb hx hi hr hN
  rcases (by omega : r = 0 ∨ r = 1 ∨ r = 2 ∨ r = 3 ∨ r = 4 ∨ r = 5 ∨ r = 6 ∨ r = 7) with rfl | rfl | rfl | rfl | rfl | rfl | rfl | rfl <;> simp only [Int.ofNat_zero, Int.cast_ofNat_Int] at ea <;>
  · go_enter Tryd.func59, Tryd.ntmps59
    go_wp2
    go_ret
    refine ⟨?_, rfl⟩
    show Ending.returned (.int .i64 (bits .and .i64 _ 1)) = _
    rw [i64_and_1 _ (by omega) (by omega)]
    first | rfl | (rw [show (2 : Int) ^ (7 - 7) = 1 from rfl, Int.ediv_one])
theorem rbit_any (v : Value) (N : Nat) (f : Nat → Int) (i : Nat) (w : World) (hN : N ≤ 1000000) (hs : Sl .u8 w v N f) (hb : ∀ j, j < N → 0 ≤ f j ∧ f j ≤ 255) (hi : i < 8 * N) :
    Calls Tryd.prog 56 #[v, .int .i64 i] w fun e w' => e = .returned (.int .i64 (bitI f i)) ∧ w = w' := by
  obtain ⟨a, c, rfl, h1, h2, h3⟩ := hs
  rcases h3 with ⟨h, _⟩ | ⟨b, o, rfl, hbl, hI⟩
  · omega
  have hc := hI (i / 8) (by omega)
  have hv := hb (i / 8) (by omega)
  unfold bitI
  obtain ⟨x, hx⟩ : ∃ x, f (i / 8) = x := ⟨_, rfl⟩
  rw [hx] at hc hv
  rw [hx]
  have hi8 : (i : Int) / 8 < (N : Int) := by omega
  have hi0 : (0 : Int) ≤ (i : Int) / 8 := by omega
  have hm : i % 8 < 8 := Nat.mod_lt _ (by decide)
  have ea : Int.tmod (i : Int) 8 = ((i % 8 : Nat) : Int) := by rw [Int.tmod_eq_emod_of_nonneg (by omega)]; rfl
  have eq : Int.tdiv (i : Int) 8 = (i : Int) / 8 := Int.tdiv_eq_ediv_of_nonneg (by omega)
  obtain ⟨r, hr⟩ : ∃ r, i % 8 = r := ⟨_, rfl⟩
  have er : (i : Int) % 8 = (r : Int) := by omega
  have hw : wrap64 ((i : Int) / 8) = (i : Int) / 8 := w64 (by omega)
  rw [hr] at ea hm
  rw [hr]
  have hx0 := hv.1
  have hx1 := hv.2
  clear hI hb hx hi hr hN
  rcases (by omega : r = 0 ∨ r = 1 ∨ r = 2 ∨ r = 3 ∨ r = 4 ∨ r = 5 ∨ r = 6 ∨ r = 7) with rfl | rfl | rfl | rfl | rfl | rfl | rfl | rfl <;> simp only [Int.ofNat_zero, Int.cast_ofNat_Int] at ea er <;>
  · go_enter Tryd.func56, Tryd.ntmps56
    go_wp2
    go_ret
    refine ⟨?_, rfl⟩
    first | rfl | (rw [show (2 : Int) ^ (7 - 7) = 1 from rfl, Int.ediv_one]; rfl) | (trace_state; sorry)
theorem Count_any (a : Option Addr) (N c : Nat) (w : World) (hN : N ≤ 1000000) : Calls Tryd.prog 27 #[.slice a N c] w fun e w' => e = .returned (.int .i64 (8 * (N : Int))) ∧ w = w' := by
  have hw : wrap64 (8 * (N : Int)) = 8 * (N : Int) := w64 (by omega)
  go_enter Tryd.func27, Tryd.ntmps27
  go_wp2
  go_ret
  exact ⟨rfl, rfl⟩
theorem rCount_any (a : Option Addr) (N c : Nat) (w : World) (hN : N ≤ 1000000) : Calls Tryd.prog 55 #[.slice a N c] w fun e w' => e = .returned (.int .i64 (8 * (N : Int))) ∧ w = w' := by
  have hw : wrap64 (8 * (N : Int)) = 8 * (N : Int) := w64 (by omega)
  go_enter Tryd.func55, Tryd.ntmps55
  go_wp2
  go_ret
  exact ⟨rfl, rfl⟩
end
end Cf
end Go.Proofs.YteigdcbaojmfgaaDoor
