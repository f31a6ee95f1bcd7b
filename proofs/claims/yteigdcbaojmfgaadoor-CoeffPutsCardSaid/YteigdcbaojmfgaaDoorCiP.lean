/- CoeffPuts. -/
import Derived.Test.YteigdcbaojmfgaaDoorCiB
import Derived.Test.YteigdcbaojmfgaaDoorChF
namespace Go.Proofs.YteigdcbaojmfgaaDoor
open Go.RowKit
namespace Cf
section
set_option maxRecDepth 100000
set_option maxHeartbeats 4000000
set_option linter.unusedVariables false
theorem CoeffPuts_any (r l : Int) (w : World) (hT : Tabs w) : Calls Tryd.prog 6 #[prV r l] w fun e w' => e = .returned (.bool true) ∧ Below w.heap.size w w' := by
  have HP := Lib.hid (fun b W h => Put_any r l b W h)
  have HR := Lib.hid (fun b W h => rPut_any r l b W h)
  have HE := Lib.hid (fun W h => Escape_any r l W h)
  have HF := Lib.hid (fun W h => rEscape_any r l W h)
  have HS := Lib.hid (fun W h => Short_any r l W h)
  have HQ := Lib.hid (fun W => rShort_any r l W)
  have HN := Lib.hid (fun W => End_any W)
  have HA := Lib.hid (fun W h => awake_any W h)
  have P0 := Lib.hid (PK.new r l hT)
  have e1 : ∀ b, ∃ S : ByteArray, (if pairB r l then sv (putL b r l) else sv []) = .string S := fun b => by split <;> exact ⟨_, rfl⟩
  have e2 : ∃ S : ByteArray, (if pairB r l then sv (cs (escL r l)) else sv []) = .string S := by split <;> exact ⟨_, rfl⟩
  obtain ⟨S1, hS1⟩ := e1 true
  obtain ⟨S0, hS0⟩ := e1 false
  obtain ⟨S2, hS2⟩ := e2
  have HP1 := Lib.hid (fun W h => HP.out true W h)
  have HP0 := Lib.hid (fun W h => HP.out false W h)
  have HR1 := Lib.hid (fun W h => HR.out true W h)
  have HR0 := Lib.hid (fun W h => HR.out false W h)
  rw [hS1] at HP1 HR1
  rw [hS0] at HP0 HR0
  rw [hS2] at HE HF
  obtain ⟨c, hc⟩ : ∃ c : Int, (if pairB r l then (0 : Int) else 3) = c := ⟨_, rfl⟩
  rw [hc] at HP1 HP0 HR1 HR0 HE HF
  obtain ⟨sh, hsh⟩ : ∃ c : Bool, (shortL false r l != []) = c := ⟨_, rfl⟩
  rw [hsh] at HS HQ
  clear HP HR hS1 hS0 hS2 hc hsh hT
  unfold prV at *
  unfold sv at HN
  rw [show cs [true, false] = [49, 48] from rfl] at HN
  go_enter Tryd.func6, Tryd.ntmps6
  go_wp2_with (first
    | (go_at_call_of 15 (Value.bool true); refine (HP1.out _ P0.out.t).mono ?_; rintro e w1 ⟨rfl, h1⟩; have P0 := Lib.hid (P0.out.below h1); have k0 := P0.out.c0; have k1 := P0.out.c1; clear h1)
    | (go_at_call_of 19 (Value.bool true); refine (HR1.out _ P0.out.t).mono ?_; rintro e w2 ⟨rfl, h1⟩; have P0 := Lib.hid (P0.out.below h1); have k0 := P0.out.c0; have k1 := P0.out.c1; clear h1)
    | (go_at_call_of 15 (Value.bool false); refine (HP0.out _ P0.out.t).mono ?_; rintro e w3 ⟨rfl, h1⟩; have P0 := Lib.hid (P0.out.below h1); have k0 := P0.out.c0; have k1 := P0.out.c1; clear h1)
    | (go_at_call_of 19 (Value.bool false); refine (HR0.out _ P0.out.t).mono ?_; rintro e w4 ⟨rfl, h1⟩; have P0 := Lib.hid (P0.out.below h1); have k0 := P0.out.c0; have k1 := P0.out.c1; clear h1)
    | (go_at_call 16; refine (HE.out _ P0.out.t).mono ?_; rintro e w5 ⟨rfl, h1⟩; have P0 := Lib.hid (P0.out.below h1); have k0 := P0.out.c0; have k1 := P0.out.c1; clear h1)
    | (go_at_call 20; refine (HF.out _ P0.out.t).mono ?_; rintro e w6 ⟨rfl, h1⟩; have P0 := Lib.hid (P0.out.below h1); have k0 := P0.out.c0; have k1 := P0.out.c1; clear h1))
  have c0 := fun x => Past.cell P0.out.c0 x
  have c1 := fun x => Past.cell P0.out.c1 x
  refine wp_region_past (by kernel_rfl) (by kernel_rfl) ?_
  repeat (go_big_quiet_step (first
    | (go_at_call 21; exact past_call (HS.out _ (P0.out.t.below (Past.kept _))))
    | (go_at_call 22; exact past_call (HQ.out _))
    | (go_at_call 23; exact past_call ((HN.out _).mono fun e w' h => ⟨h.1, h.2 ▸ Below.refl _ _⟩))
    | (go_at_call 9; exact past_call (HA.out _ (P0.out.t.below (Past.kept _))))))
  refine wpQuiet_nil ?_
  rintro _ ⟨⟨w7, h7⟩, rfl⟩
  go_wp2_with fail
  go_ret
  exact ⟨rfl, chain P0.out.bel h7⟩
end
end Cf
end Go.Proofs.YteigdcbaojmfgaaDoor
