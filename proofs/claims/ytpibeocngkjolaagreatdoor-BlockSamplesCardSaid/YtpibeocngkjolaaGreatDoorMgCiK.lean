/- law08: pair, gets, puts, awake. | law08: awake. | CoeffKnown. | law08: of, code. -/
import Derived.Test.YtpibeocngkjolaaGreatDoorMgCfG
import Derived.Test.YtpibeocngkjolaaGreatDoorMgPick
set_option linter.unusedVariables false
set_option linter.unusedSimpArgs false

namespace Go.Proofs.YtpibeocngkjolaaGreatDoor
open Go.RowKit
set_option linter.unusedSimpArgs false
set_option linter.unusedVariables false
namespace Cf
section
set_option maxRecDepth 100000
set_option maxHeartbeats 4000000
set_option linter.unusedVariables false
theorem results_pair {fn : Func} {p : Tmp} (hr : fn.results = #[.cell p 69]) (tmps : Array Value) {V : World} {B : Nat} {r l : Int}
    (hp : tmps.getD p undef = .pointer (some ⟨B, 0, none⟩)) (h : V.heap[B]? = some (.cells #[.int .i64 r, .int .i64 l] 69 (0, 0))) : (results fn tmps).run Tryz.prog V = .ok (prV r l) V := by
  have c0 := cell_row h (i := 0) (v := .int .i64 r) rfl
  have c1 := cell_row h (i := 1) (v := .int .i64 l) rfl
  have hp' : tmps[p]?.getD undef = .pointer (some ⟨B, 0, none⟩) := by simpa using hp
  unfold prV
  simp [results, hr, hp', asAddr, loadVar, go_sem, c0, c1, Tryz.underlying69, Tryz.underlying3]
/-- a new block of bytes. -/
def byF (bs : List Nat) : Nat → Int := fun i => (bs.getD i 0 : Nat)
theorem byF_sl (bs : List Nat) (W : World) (cs : Array Value) (hc : cs = (bs.map fun x : Nat => Value.int .u8 (x : Int)).toArray) (hl : bs.length ≤ maxLen) : Sl .u8 (W.alloc (.cells cs 5)) (.slice (some ⟨W.heap.size, 0, none⟩) bs.length bs.length) bs.length (byF bs) := by
  refine ⟨_, _, rfl, Nat.le_refl _, hl, .inr ⟨_, 0, rfl, by simp, ?_⟩⟩
  refine (Arr.new W .u8 cs _ bs.length (byF bs) fun i hi => ?_).ints
  subst hc
  simp [byF, hi]
end
deriving instance DecidableEq for G5
theorem known1 : getF (byF [192]) 1 0 true = ⟨0, -1, false, 2, 0⟩ := by decide +kernel
theorem known2 : getF (byF [192]) 1 0 false = ⟨0, 1, false, 3, 0⟩ := by decide +kernel
theorem known3 : getF (byF [4, 3, 16]) 3 0 false = ⟨0, 49, false, 20, 0⟩ := by decide +kernel
theorem known4 : putL true 26 (-1) = [48, 48, 48, 48, 48, 48, 48, 48, 49, 49, 48, 49, 49, 49] := by decide +kernel
end Cf
end Go.Proofs.YtpibeocngkjolaaGreatDoor

namespace Go.Proofs.YtpibeocngkjolaaGreatDoor
open Go.RowKit
set_option linter.unusedSimpArgs false
set_option linter.unusedVariables false
namespace Cf
structure AW (w W : World) : Prop where
  t : Tabs W
  b : Below w.heap.size w W
theorem AW.below {w W W' : World} (h : AW w W) (hb : Below W.heap.size W W') : AW w W' := ⟨h.t.below hb, chain h.b hb⟩
theorem AW.new {w : World} (h : Tabs w) : AW w w := ⟨h, Below.refl _ _⟩
section
set_option maxRecDepth 100000
set_option maxHeartbeats 4000000
set_option linter.unusedVariables false
end
end Cf
end Go.Proofs.YtpibeocngkjolaaGreatDoor

namespace Go.Proofs.YtpibeocngkjolaaGreatDoor
open Go.RowKit
set_option linter.unusedSimpArgs false
set_option linter.unusedVariables false
namespace Cf
theorem kn1 : getF (byF [128]) 1 0 true = ⟨0, 1, false, 2, 0⟩ := by decide +kernel
theorem kn2 : getF (byF [224]) 1 0 false = ⟨0, -1, false, 3, 0⟩ := by decide +kernel
theorem kn3 : getF (byF [64]) 1 0 false = ⟨0, 2, false, 5, 0⟩ := by decide +kernel
theorem kn4 : getF (byF [72]) 1 0 false = ⟨0, -2, false, 5, 0⟩ := by decide +kernel
theorem kn5 : getF (byF [4, 0, 0]) 3 0 true = ⟨0, 0, false, 0, 10⟩ := by decide +kernel
theorem kn6 : getF (byF [0, 32]) 2 0 true = ⟨0, 0, false, 0, 7⟩ := by decide +kernel
theorem kn7 : getF (byF [4]) 1 0 true = ⟨0, 0, false, 0, 5⟩ := by decide +kernel
theorem kn8 : getF (byF [128]) 1 0 false = ⟨0, 0, true, 2, 0⟩ := by decide +kernel
theorem kn9 : cs (escL 0 (-1)) = [48, 48, 48, 48, 48, 49, 48, 48, 48, 48, 48, 48, 49, 49, 49, 49, 49, 49, 49, 49] := by decide +kernel
theorem kn10 : putL true 0 1 = [49, 48] := by decide +kernel
theorem kn11 : putL false 0 1 = [49, 49, 48] := by decide +kernel
theorem kn12 : putL true 27 1 = [48, 48, 48, 48, 48, 49, 48, 49, 49, 48, 49, 49, 48, 48, 48, 48, 48, 48, 48, 49] := by decide +kernel
theorem kn13 : shortL false 1 8 = [] := by decide +kernel
section
set_option maxRecDepth 100000
set_option maxHeartbeats 4000000
set_option linter.unusedVariables false
end
end Cf
end Go.Proofs.YtpibeocngkjolaaGreatDoor

namespace Go.Proofs.YtpibeocngkjolaaGreatDoor
open Go.RowKit
set_option linter.unusedSimpArgs false
set_option linter.unusedVariables false
namespace Cf
def ofL (x : Int) : Int := if x % 254 - 127 ≥ 0 then x % 254 - 127 + 1 else x % 254 - 127
theorem of_pair (x y : Int) : pairB (x % 64) (ofL y) = true := by
  unfold pairB ofL
  rw [decide_eq_true_eq]
  split <;> omega
section
set_option maxRecDepth 100000
set_option maxHeartbeats 4000000
def oneK (l : List Bool) (k : Nat) : Bool := (l.take (min k 9)).any id
end
end Cf
end Go.Proofs.YtpibeocngkjolaaGreatDoor
