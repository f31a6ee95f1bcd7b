/- law08: awake. -/
import Derived.Test.YteigdcbaojmfgaaDoorCiA
namespace Go.Proofs.YteigdcbaojmfgaaDoor
open Go.RowKit
set_option linter.unusedSimpArgs false
set_option linter.unusedVariables false
namespace Cf
structure AW (w W : World) : Prop where
  t : Tabs W
  b : Below w.heap.size w W
theorem AW.below {w W W' : World} (h : AW w W) (hb : Below W.heap.size W W') : AW w W' := ⟨h.t.below hb, chain h.b hb⟩
theorem AW.new {w : World} (h : Tabs w) : AW w w := ⟨h, Below.refl _ _⟩
section
set_option maxRecDepth 100000
set_option maxHeartbeats 4000000
set_option linter.unusedVariables false
theorem awake_any (w : World) (hT : Tabs w) : Calls Tryd.prog 9 #[] w fun e w' => e = .returned (.bool true) ∧ Below w.heap.size w w' := by
  have A := Lib.hid (AW.new hT)
  clear hT
  have HP := Lib.hid (fun W h => puts_any 26 (-1) true _ W h (by decide) known4)
  unfold prV sv at HP
  have HE := Lib.hid (fun W => End_any W)
  unfold sv at HE
  go_enter Tryd.func9, Tryd.ntmps9
  go_wp2_with (first
    | (go_at_call 25; refine (lpair_any _ _ _).mono ?_; rintro e w1 ⟨rfl, h1⟩; unfold prV; have A := Lib.hid (A.out.below h1); clear h1)
    | (go_at_call_of 24 (Value.int IntKind.i64 2); refine (gets_new true 0 (-1) 2 0 [192] _ 1 _ A.out.t (by rfl) rfl (by decide) (by decide) known1).mono ?_; rintro e w1 ⟨rfl, h1⟩; have A := Lib.hid (A.out.below h1); clear h1)
    | (go_at_call_of 24 (Value.int IntKind.i64 3); refine (gets_new false 0 1 3 0 [192] _ 1 _ A.out.t (by rfl) rfl (by decide) (by decide) known2).mono ?_; rintro e w1 ⟨rfl, h1⟩; have A := Lib.hid (A.out.below h1); clear h1)
    | (go_at_call_of 24 (Value.int IntKind.i64 20); refine (gets_new false 0 49 20 0 [4, 3, 16] _ 3 _ A.out.t (by rfl) rfl (by decide) (by decide) known3).mono ?_; rintro e w1 ⟨rfl, h1⟩; have A := Lib.hid (A.out.below h1); clear h1)
    | (go_at_call 26; refine (HP.out _ A.out.t).mono ?_; rintro e w1 ⟨rfl, h1⟩; have A := Lib.hid (A.out.below h1); clear h1)
    | (go_at_call 23; refine (HE.out _).mono ?_; rintro e w1 ⟨rfl, rfl⟩))
  go_ret
  exact ⟨rfl, A.out.b⟩
end
end Cf
end Go.Proofs.YteigdcbaojmfgaaDoor
