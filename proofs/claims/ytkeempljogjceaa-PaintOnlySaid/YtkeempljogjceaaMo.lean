/- motion: halves, planes, what fits. -/
import Derived.Test.YtkeempljogjceaaFr3
import Derived.Lib.MinMax
namespace Go.Proofs.Ytkeempljogjceaa
open Go.RowKit
namespace Mo
open Fr

theorem Half_any (x : Int) (hx : -1000000 ≤ x ∧ x ≤ 1000000) (w : World) : Calls Try.prog 47 #[.int .i64 x] w fun e w' => e = .returned (.int .i64 (x.tdiv 2)) ∧ w = w' := by
  go_enter Try.func47, Try.ntmps47
  go_wp2
  go_ret
  exact ⟨rfl, rfl⟩
/-- is a place within a plane? -/
def inP (W H x y : Int) : Bool := decide (0 ≤ x ∧ x < W ∧ 0 ≤ y ∧ y < H)
def plCells (v : Value) (W H : Int) : Array Value := #[v, .int .i64 W, .int .i64 H]
theorem in_any (v : Value) (a : Option Addr) (n c : Nat) (hv : v = .slice a n c) (W H x y : Int) (w : World) : Calls Try.prog 49 #[.agg #[v, .int .i64 W, .int .i64 H], .int .i64 x, .int .i64 y] w fun e w' => e = .returned (.bool (inP W H x y)) ∧ w' = w.alloc (.cells #[v, .int .i64 W, .int .i64 H] 70) := by
  subst hv
  by_cases h1 : 0 ≤ x
  · by_cases h2 : x < W
    · by_cases h3 : 0 ≤ y
      · by_cases h4 : y < H
        · have E : Hid (inP W H x y = true) := Lib.hid (by unfold inP; simp [*])
          go_enter Try.func49, Try.ntmps49
          go_wp2
          go_ret
          exact ⟨by rw [E.out]; rfl, rfl⟩
        · have E : Hid (inP W H x y = false) := Lib.hid (by unfold inP; simp [*])
          go_enter Try.func49, Try.ntmps49
          go_wp2
          go_ret
          exact ⟨by rw [E.out]; rfl, rfl⟩
      · have E : Hid (inP W H x y = false) := Lib.hid (by unfold inP; simp [*])
        go_enter Try.func49, Try.ntmps49
        go_wp2
        go_ret
        exact ⟨by rw [E.out]; rfl, rfl⟩
    · have E : Hid (inP W H x y = false) := Lib.hid (by unfold inP; simp [*])
      go_enter Try.func49, Try.ntmps49
      go_wp2
      go_ret
      exact ⟨by rw [E.out]; rfl, rfl⟩
  · have E : Hid (inP W H x y = false) := Lib.hid (by unfold inP; simp [*])
    go_enter Try.func49, Try.ntmps49
    go_wp2
    go_ret
    exact ⟨by rw [E.out]; rfl, rfl⟩
theorem at_any (b o n c : Nat) (f : Nat → Int) (W H : Int) (x y p : Nat) (hp : y * W + x = (p : Int)) (hpn : p < n) (hw : 0 ≤ W ∧ W ≤ 1000) (hx : x ≤ 1000 ∧ y ≤ 1000) (w : World) (h : Ints w .u8 b o n f) :
    Calls Try.prog 50 #[.agg #[.slice (some ⟨b, o, none⟩) n c, .int .i64 W, .int .i64 H], .int .i64 x, .int .i64 y] w fun e w' => e = .returned (.int .u8 (f p)) ∧ w' = w.alloc (.cells #[.slice (some ⟨b, o, none⟩) n c, .int .i64 W, .int .i64 H] 70) := by
  have m1 : 0 ≤ (y : Int) * W := Int.mul_nonneg (by omega) hw.1
  have m2 : (y : Int) * W ≤ 1000 * 1000 := Int.mul_le_mul (by omega) hw.2 hw.1 (by omega)
  have e1 := (h.alloc (.cells #[.slice (some ⟨b, o, none⟩) n c, .int .i64 W, .int .i64 H] 70)) p hpn
  have pb : (0 : Int) ≤ (p : Int) ∧ (p : Int) < (n : Int) := by omega
  go_enter Try.func50, Try.ntmps50
  go_wp2
  go_ret
  exact ⟨rfl, rfl⟩
/-- why a vector does not fit, or that it does. -/
def vE (n g a x y : Int) : Int :=
  if cE n g a ≠ 0 then cE n g a else if x < -15 ∨ 15 < x ∨ y < -15 ∨ 15 < y then 3 else
    if cX n g a + x < 0 ∨ wV n < cX n g a + x + 16 ∨ cY n g a + y < 0 ∨ hV n < cY n g a + y + 16 then 12 else 0
end Mo
end Go.Proofs.Ytkeempljogjceaa
