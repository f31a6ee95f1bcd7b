/- A place of the order: scan's and the document's. -/
import Derived.Test.YtngffhpkjekopaaScanP
namespace Go.Proofs.Ytngffhpkjekopaa
open Go.RowKit
namespace Sc

def pE (i : Int) : Int := if i < 0 ∨ 63 < i then 3 else 0
def pV (i : Int) : Int := if i < 0 ∨ 63 < i then 0 else plF i.toNat
theorem Place_in (k : Nat) (hk : k < 64) (w : World) : Calls Try.prog 12 #[.int .i64 k] w fun e w' => e = .returned (.tuple #[.int .i64 (plF k), .int .i64 0]) ∧ Below w.heap.size w w' := by
  have i1 := fun w' => run_index_num (P := Try.prog) w' (k := .i64) (f := plF) (n := 64) Try.underlying48 Try.underlying3 (by kernel_rfl) .i64 k (k : Int) rfl hk
  have kb : (0 : Int) ≤ (k : Int) ∧ (k : Int) < 64 := by omega
  go_enter Try.func12, Try.ntmps12
  go_wp2_with (go_at_call 25; refine (places_any _).mono ?_; rintro e w1 ⟨rfl, hw⟩)
  go_ret2
  exact ⟨rfl, hw⟩
theorem Place_any (i : Int) (w : World) : Calls Try.prog 12 #[.int .i64 i] w fun e w' => e = .returned (.tuple #[.int .i64 (pV i), .int .i64 (pE i)]) ∧ Below w.heap.size w w' := by
  by_cases h : i < 0 ∨ 63 < i
  · have E1 : Hid (pV i = 0) := Lib.hid (by unfold pV; rw [if_pos h])
    have E2 : Hid (pE i = 3) := Lib.hid (by unfold pE; rw [if_pos h])
    rcases h with h | h
    · go_enter Try.func12, Try.ntmps12
      go_wp2
      go_ret2
      exact ⟨by rw [E1.out, E2.out]; rfl, Below.refl _ _⟩
    · have h0 : ¬ i < 0 := by omega
      go_enter Try.func12, Try.ntmps12
      go_wp2
      go_ret2
      exact ⟨by rw [E1.out, E2.out]; rfl, Below.refl _ _⟩
  · have e1 : pV i = plF i.toNat := by unfold pV; rw [if_neg h]
    have e2 : pE i = 0 := by unfold pE; rw [if_neg h]
    rw [e1, e2]
    have := Place_in i.toNat (by omega) w
    rwa [show ((i.toNat : Nat) : Int) = i by omega] at this

theorem rorder_any (w : World) : Calls Try.prog 27 #[] w fun e w' => e = .returned (.slice (some ⟨w.heap.size, 0, none⟩) 64 64) ∧ w' = w.alloc (.cells (rowOf .i64 64 plF) 3) := by
  have HZ := lits64
  go_enter Try.func27, Try.ntmps27
  go_wp2
  go_ret
  exact ⟨rfl, rfl⟩
theorem pl_new (w : World) (t : TypeId) : Arr (w.alloc (.cells (rowOf .i64 64 plF) t)) .i64 w.heap.size 64 plF := Arr.new w .i64 _ t 64 _ (fun i hi => rowOf_get _ _ _ _ hi)
theorem rPlace_in (k : Nat) (hk : k < 64) (w : World) : Calls Try.prog 13 #[.int .i64 k] w fun e w' => e = .returned (.tuple #[.int .i64 (plF k), .int .i64 0]) ∧ Below w.heap.size w w' := by
  have kb : (0 : Int) ≤ (k : Int) ∧ (k : Int) < 64 := by omega
  have c := (pl_new w 3 k hk).1
  have HB := Lib.hid ((Below.refl w.heap.size w).alloc (Nat.le_refl _) (.cells (rowOf .i64 64 plF) 3))
  go_enter Try.func13, Try.ntmps13
  go_wp2_with (go_at_call 27; refine (rorder_any _).mono ?_; rintro e w1 ⟨rfl, rfl⟩)
  go_ret2
  exact ⟨rfl, HB.out⟩
theorem rPlace_any (i : Int) (w : World) : Calls Try.prog 13 #[.int .i64 i] w fun e w' => e = .returned (.tuple #[.int .i64 (pV i), .int .i64 (pE i)]) ∧ Below w.heap.size w w' := by
  by_cases h : i < 0 ∨ 63 < i
  · have E1 : Hid (pV i = 0) := Lib.hid (by unfold pV; rw [if_pos h])
    have E2 : Hid (pE i = 3) := Lib.hid (by unfold pE; rw [if_pos h])
    rcases h with h | h
    · go_enter Try.func13, Try.ntmps13
      go_wp2
      go_ret2
      exact ⟨by rw [E1.out, E2.out]; rfl, Below.refl _ _⟩
    · have h0 : ¬ i < 0 := by omega
      go_enter Try.func13, Try.ntmps13
      go_wp2
      go_ret2
      exact ⟨by rw [E1.out, E2.out]; rfl, Below.refl _ _⟩
  · have e1 : pV i = plF i.toNat := by unfold pV; rw [if_neg h]
    have e2 : pE i = 0 := by unfold pE; rw [if_neg h]
    rw [e1, e2]
    have := rPlace_in i.toNat (by omega) w
    rwa [show ((i.toNat : Nat) : Int) = i by omega] at this
end Sc
end Go.Proofs.Ytngffhpkjekopaa
