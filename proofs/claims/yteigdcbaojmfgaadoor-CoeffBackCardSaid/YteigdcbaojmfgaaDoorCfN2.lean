/- coeff.number: ParseInt. -/
import Derived.Test.YteigdcbaojmfgaaDoorCfN
namespace Go.Proofs.YteigdcbaojmfgaaDoor
open Go.RowKit
set_option linter.unusedSimpArgs false
set_option linter.unusedVariables false
namespace Cf
section
set_option maxRecDepth 100000
set_option maxHeartbeats 4000000
set_option linter.unusedVariables false
theorem parseInt2i (l : List Bool) (h0 : l ≠ []) (h20 : l.length ≤ 20) (w : World) :
    Calls Tryd.prog 61 #[sv (cs l), .int .i64 2, .int .i64 64] w fun e w' => e = .returned (.tuple #[.int .i64 (numL 0 l), .nilIface]) ∧ Below w.heap.size w w' := by
  have PU := Lib.hid (parseUint2 l h0 h20 w)
  have BW := Lib.hid (Lib.bytesWorld_below w 5 ⟨(cs l).toArray⟩)
  have hnum := numL_20 l h20
  obtain ⟨b, l', rfl⟩ : ∃ b l', l = b :: l' := List.exists_cons_of_ne_nil h0
  have hsz : (⟨(cs (b :: l')).toArray⟩ : ByteArray).size = l'.length + 1 := by show (cs (b :: l')).toArray.size = _; simp [cs]
  have hg : ∀ h, (⟨(cs (b :: l')).toArray⟩ : ByteArray)[0]'h = bch b := fun h => by simp [cs]; rfl
  unfold sv at PU ⊢
  obtain ⟨m, hm⟩ : ∃ m, numL 0 (b :: l') = m := ⟨_, rfl⟩
  rw [hm] at PU hnum ⊢
  obtain ⟨z, hz'⟩ : ∃ z : Int, (m : Int) = z := ⟨_, rfl⟩
  rw [hz'] at PU ⊢
  have z0 : 0 ≤ z := by omega
  have z1 : z < 1048576 := by omega
  clear hz' hnum
  obtain ⟨t, ht⟩ : ∃ t : ByteArray, (⟨(cs (b :: l')).toArray⟩ : ByteArray) = t := ⟨_, rfl⟩
  have hemp : t.toList.isEmpty = false := by
    rw [← decide_eq_emptyBytes]
    exact decide_eq_false (fun h => by rw [ht, h] at hsz; have : (0 : Nat) = l'.length + 1 := hsz; omega)
  rw [ht] at PU BW hsz hg ⊢
  have hz : (0 : Int) < (t.size : Int) := by omega
  clear hsz ht hm h20 h0
  cases b <;>
  · go_enter Tryd.func61, Tryd.ntmps61
    go_wp2_with (go_at_call 72; refine PU.out.mono ?_; rintro e w1 ⟨rfl, rfl⟩)
    go_ret2
    exact ⟨rfl, BW.out⟩
theorem ParseInt2 (l : List Bool) (h0 : l ≠ []) (h20 : l.length ≤ 20) (w : World) :
    Calls Tryd.prog 48 #[sv (cs l), .int .i64 2, .int .i64 64] w fun e w' => e = .returned (.tuple #[.int .i64 (numL 0 l), .nilIface]) ∧ Below w.heap.size w w' := by
  have PU := Lib.hid (parseInt2i l h0 h20 w)
  unfold sv at PU ⊢
  obtain ⟨z, hz'⟩ : ∃ z : Int, (numL 0 l : Int) = z := ⟨_, rfl⟩
  rw [hz'] at PU ⊢
  obtain ⟨t, ht⟩ : ∃ t : ByteArray, (⟨(cs l).toArray⟩ : ByteArray) = t := ⟨_, rfl⟩
  rw [ht] at PU ⊢
  clear hz' ht h0 h20
  go_enter Tryd.func48, Tryd.ntmps48
  go_wp2_with (go_at_call 61; refine PU.out.mono ?_; rintro e w1 ⟨rfl, b1⟩; have B1 := Lib.hid b1; clear b1)
  go_ret2
  exact ⟨rfl, B1.out⟩
theorem number_any (l : List Bool) (h0 : l ≠ []) (h20 : l.length ≤ 20) (w : World) :
    Calls Tryd.prog 30 #[sv (cs l)] w fun e w' => e = .returned (.int .i64 (numL 0 l)) ∧ Below w.heap.size w w' := by
  have PU := Lib.hid (ParseInt2 l h0 h20 w)
  unfold sv at PU ⊢
  obtain ⟨z, hz'⟩ : ∃ z : Int, (numL 0 l : Int) = z := ⟨_, rfl⟩
  rw [hz'] at PU ⊢
  obtain ⟨t, ht⟩ : ∃ t : ByteArray, (⟨(cs l).toArray⟩ : ByteArray) = t := ⟨_, rfl⟩
  rw [ht] at PU ⊢
  clear hz' ht h0 h20
  go_enter Tryd.func30, Tryd.ntmps30
  go_wp2_with (go_at_call 48; refine PU.out.mono ?_; rintro e w1 ⟨rfl, b1⟩; have B1 := Lib.hid b1; clear b1)
  go_ret
  exact ⟨rfl, B1.out⟩
end
end Cf
end Go.Proofs.YteigdcbaojmfgaaDoor
