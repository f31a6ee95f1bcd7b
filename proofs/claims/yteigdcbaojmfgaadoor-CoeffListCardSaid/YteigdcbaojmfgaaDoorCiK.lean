/- CoeffKnown. -/
import Derived.Test.YteigdcbaojmfgaaDoorCiB
namespace Go.Proofs.YteigdcbaojmfgaaDoor
open Go.RowKit
set_option linter.unusedSimpArgs false
set_option linter.unusedVariables false
namespace Cf
theorem kn1 : getF (byF [128]) 1 0 true = ⟨0, 1, false, 2, 0⟩ := by decide +kernel
theorem kn2 : getF (byF [224]) 1 0 false = ⟨0, -1, false, 3, 0⟩ := by decide +kernel
theorem kn3 : getF (byF [64]) 1 0 false = ⟨0, 2, false, 5, 0⟩ := by decide +kernel
theorem kn4 : getF (byF [72]) 1 0 false = ⟨0, -2, false, 5, 0⟩ := by decide +kernel
theorem kn5 : getF (byF [4, 0, 0]) 3 0 true = ⟨0, 0, false, 0, 10⟩ := by decide +kernel
theorem kn6 : getF (byF [0, 32]) 2 0 true = ⟨0, 0, false, 0, 7⟩ := by decide +kernel
theorem kn7 : getF (byF [4]) 1 0 true = ⟨0, 0, false, 0, 5⟩ := by decide +kernel
theorem kn8 : getF (byF [128]) 1 0 false = ⟨0, 0, true, 2, 0⟩ := by decide +kernel
theorem kn9 : cs (escL 0 (-1)) = [48, 48, 48, 48, 48, 49, 48, 48, 48, 48, 48, 48, 49, 49, 49, 49, 49, 49, 49, 49] := by decide +kernel
theorem kn10 : putL true 0 1 = [49, 48] := by decide +kernel
theorem kn11 : putL false 0 1 = [49, 49, 48] := by decide +kernel
theorem kn12 : putL true 27 1 = [48, 48, 48, 48, 48, 49, 48, 49, 49, 48, 49, 49, 48, 48, 48, 48, 48, 48, 48, 49] := by decide +kernel
theorem kn13 : shortL false 1 8 = [] := by decide +kernel
section
set_option maxRecDepth 100000
set_option maxHeartbeats 4000000
set_option linter.unusedVariables false
theorem CoeffKnown_any (w : World) (hT : Tabs w) : Calls Tryd.prog 7 #[] w fun e w' => e = .returned (.bool true) ∧ Below w.heap.size w w' := by
  have A := Lib.hid (AW.new hT)
  have G8 := Lib.hid (fun W (hW : AW w W) => Get_any (.slice (some ⟨W.heap.size, 0, none⟩) 1 1) 1 (byF [128]) 0 false (W.alloc (.cells #[.int .u8 128] 5)) (by decide) (byF_sl [128] W _ rfl (by decide)) (by intro j hj; have h0 : j = 0 := (by omega); subst h0; exact ⟨by decide, by decide⟩) (hW.t.below ((Below.refl _ W).alloc (Nat.le_refl _) _)))
  rw [kn8] at G8
  have HE := Lib.hid (fun W h => Escape_any 0 (-1) W h)
  rw [show pairB 0 (-1) = true by decide, if_pos rfl, if_pos rfl, kn9] at HE
  have HZ := Lib.hid (fun W h => Put_any 0 0 true W h)
  rw [show pairB 0 0 = false by decide, if_neg (by decide), if_neg (by decide)] at HZ
  have P1 := Lib.hid (fun W h => puts_any 0 1 true _ W h (by decide) kn10)
  have P2 := Lib.hid (fun W h => puts_any 0 1 false _ W h (by decide) kn11)
  have P3 := Lib.hid (fun W h => puts_any 27 1 true _ W h (by decide) kn12)
  have HS := Lib.hid (fun W h => Short_any 1 8 W h)
  rw [kn13] at HS
  have HA := Lib.hid (fun W h => awake_any W h)
  unfold prV sv at HE HZ P1 P2 P3
  unfold prV at HS
  unfold G5.val prV at G8
  clear hT
  go_enter Tryd.func7, Tryd.ntmps7
  go_wp2_with (first
    | (go_at_call 11; refine (G8.out _ A.out).mono ?_; rintro e w1 ⟨rfl, h1⟩; have A := Lib.hid ((A.out.below (((Below.refl _ _).alloc (Nat.le_refl _) _).trans (h1.mono (by simp)))).below ((Below.refl _ _).alloc (Nat.le_refl _) (.cells #[.int .i64 0, .int .i64 0] 26))); clear h1)
    | (go_at_call 25; refine (lpair_any _ _ _).mono ?_; rintro e w1 ⟨rfl, h1⟩; unfold prV; have A := Lib.hid (A.out.below h1); clear h1)
    | (go_at_call_of 24 (Value.int IntKind.i64 3); refine (gets_new false 0 (-1) 3 0 [224] _ 1 _ A.out.t (by rfl) rfl (by decide) (by decide) kn2).mono ?_; rintro e w1 ⟨rfl, h1⟩; have A := Lib.hid (A.out.below h1); clear h1)
    | (go_at_call_of 24 (Value.agg #[.int .i64 0, .int .i64 2]); refine (gets_new false 0 2 5 0 [64] _ 1 _ A.out.t (by rfl) rfl (by decide) (by decide) kn3).mono ?_; rintro e w1 ⟨rfl, h1⟩; have A := Lib.hid (A.out.below h1); clear h1)
    | (go_at_call_of 24 (Value.agg #[.int .i64 0, .int .i64 1]); refine (gets_new true 0 1 2 0 [128] _ 1 _ A.out.t (by rfl) rfl (by decide) (by decide) kn1).mono ?_; rintro e w1 ⟨rfl, h1⟩; have A := Lib.hid (A.out.below h1); clear h1)
    | (go_at_call_of 24 (Value.int IntKind.i64 10); refine (gets_new true 0 0 0 10 [4, 0, 0] _ 3 _ A.out.t (by rfl) rfl (by decide) (by decide) kn5).mono ?_; rintro e w1 ⟨rfl, h1⟩; have A := Lib.hid (A.out.below h1); clear h1)
    | (go_at_call_of 24 (Value.int IntKind.i64 7); refine (gets_new true 0 0 0 7 [0, 32] _ 2 _ A.out.t (by rfl) rfl (by decide) (by decide) kn6).mono ?_; rintro e w1 ⟨rfl, h1⟩; have A := Lib.hid (A.out.below h1); clear h1)
    | (go_at_call_of 24 (Value.bool false); refine (gets_new false 0 (-2) 5 0 [72] _ 1 _ A.out.t (by rfl) rfl (by decide) (by decide) kn4).mono ?_; rintro e w1 ⟨rfl, h1⟩; have A := Lib.hid (A.out.below h1); clear h1)
    | (go_at_call_of 24 (Value.int IntKind.i64 5); refine (gets_new true 0 0 0 5 [4] _ 1 _ A.out.t (by rfl) rfl (by decide) (by decide) kn7).mono ?_; rintro e w1 ⟨rfl, h1⟩; have A := Lib.hid (A.out.below h1); clear h1)
    | (go_at_call 16; refine (HE.out _ A.out.t).mono ?_; rintro e w1 ⟨rfl, h1⟩; have A := Lib.hid (A.out.below h1); clear h1)
    | (go_at_call 15; refine (HZ.out _ A.out.t).mono ?_; rintro e w1 ⟨rfl, h1⟩; have A := Lib.hid (A.out.below h1); clear h1)
    | (go_at_call_of 26 (Value.int IntKind.i64 27); refine (P3.out _ A.out.t).mono ?_; rintro e w1 ⟨rfl, h1⟩; have A := Lib.hid (A.out.below h1); clear h1)
    | (go_at_call_of 26 (Value.bool true); refine (P1.out _ A.out.t).mono ?_; rintro e w1 ⟨rfl, h1⟩; have A := Lib.hid (A.out.below h1); clear h1)
    | (go_at_call_of 26 (Value.bool false); refine (P2.out _ A.out.t).mono ?_; rintro e w1 ⟨rfl, h1⟩; have A := Lib.hid (A.out.below h1); clear h1)
    | (go_at_call 21; refine (HS.out _ A.out.t).mono ?_; rintro e w1 ⟨rfl, h1⟩; have A := Lib.hid (A.out.below h1); clear h1)
    | (go_at_call 9; refine (HA.out _ A.out.t).mono ?_; rintro e w1 ⟨rfl, h1⟩; have A := Lib.hid (A.out.below h1); clear h1))
  go_ret
  exact ⟨rfl, A.out.b⟩
end
end Cf
end Go.Proofs.YteigdcbaojmfgaaDoor
