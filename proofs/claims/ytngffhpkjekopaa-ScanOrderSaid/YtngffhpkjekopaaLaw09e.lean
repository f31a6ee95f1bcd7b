/- ScanOrder. -/
import Derived.Test.YtngffhpkjekopaaLaw09d
import Derived.Test.YtngffhpkjekopaaPick
namespace Go.Proofs.Ytngffhpkjekopaa
open Go.RowKit
namespace Sc

def sm (p : Nat) : Nat := p % 8 + p / 8
theorem order_one : ∀ i, i < 64 → ∀ k, k < 64 → (at' i = at' k ↔ i = k) := by decide +kernel
theorem order_sum : ∀ i, i < 64 → ∀ k, k < 64 → i < k → sm (at' i) ≤ sm (at' k) ∧ (sm (at' i) = sm (at' k) → (at' k / 8 < at' i / 8 ↔ sm (at' i) % 2 = 0)) := by decide +kernel
set_option maxRecDepth 100000 in
theorem ScanOrder_any (a0 a1 : Int) (w : World) (_ : (Lit.int .i64 a0).wf = true) (_ : (Lit.int .i64 a1).wf = true) :
    Calls Try.prog 6 #[.int .i64 a0, .int .i64 a1] w fun e w' => e = .returned (.bool true) ∧ Below w.heap.size w w' := by
  obtain ⟨i, hi⟩ : ∃ i : Nat, a0 % 64 = (i : Int) := ⟨(a0 % 64).toNat, by omega⟩
  obtain ⟨k, hk⟩ : ∃ k : Nat, a1 % 64 = (k : Int) := ⟨(a1 % 64).toNat, by omega⟩
  have i64 : i < 64 := by omega
  have k64 : k < 64 := by omega
  have O1 := order_one i i64 k k64
  have O2 := order_sum i i64 k k64
  have Pi : pV (i : Int) = (at' i : Int) ∧ pE (i : Int) = 0 := by unfold pV pE plF; rw [if_neg (by omega), if_neg (by omega)]; simp
  have Pk : pV (k : Int) = (at' k : Int) ∧ pE (k : Int) = 0 := by unfold pV pE plF; rw [if_neg (by omega), if_neg (by omega)]; simp
  have pb := at_lt0 i i64
  have qb := at_lt0 k k64
  obtain ⟨p, hp⟩ : ∃ p, at' i = p := ⟨_, rfl⟩
  obtain ⟨q, hq⟩ : ∃ q, at' k = q := ⟨_, rfl⟩
  rw [hp] at O1 O2 Pi pb
  rw [hq] at O1 O2 Pk qb
  clear hp hq
  have HI := Lib.hid hi
  have HK := Lib.hid hk
  have HP := Lib.hid Pi
  have HQ := Lib.hid Pk
  have HO := Lib.hid O2
  have t1 : (((p : Nat) : Int) == ((q : Nat) : Int)) = decide (i = k) := by
    by_cases h : i = k <;> simp [h] <;> omega
  have t2 : (((i : Nat) : Int) == ((k : Nat) : Int)) = decide (i = k) := by
    by_cases h : i = k <;> simp [h] <;> omega
  clear hi hk Pi Pk O1 O2
  by_cases hik : i < k
  · have d1 : decide ((i : Int) < (k : Int)) = true := by simp; exact hik
    go_enter Try.func6, Try.ntmps6
    go_wp2_with (first
      | (go_at_call 5; refine (ScanKnown_any _).mono ?_; rintro e w2 ⟨rfl, b2⟩; have HB := Lib.hid b2; clear b2; have A := Lib.hid trivial)
      | (go_at_call 24; clear A; refine (Pick_any a0 _ _ (by omega) (by omega)).mono ?_; rintro e w3 ⟨rfl, rfl⟩; rw [HI.out])
      | (go_at_call 24; refine (Pick_any a1 _ _ (by omega) (by omega)).mono ?_; rintro e w3 ⟨rfl, rfl⟩; rw [HK.out])
      | (go_at_call 12; clear HI; refine (Place_any i _).mono ?_; rintro e w2 ⟨rfl, b2⟩; rw [HP.out.1, HP.out.2]; have HB := Lib.hid (chain HB.out b2); clear b2)
      | (go_at_call 12; refine (Place_any k _).mono ?_; rintro e w2 ⟨rfl, b2⟩; rw [HQ.out.1, HQ.out.2]; have HB := Lib.hid (chain HB.out b2); clear b2))
    all_goals first
      | (go_ret; exact ⟨rfl, HB.out⟩)
      | (exfalso
         have O := HO.out hik
         unfold sm at O
         rename_i h
         by_cases c1 : (q : Int) / 8 < (p : Int) / 8 <;> by_cases c2 : ((q : Int) % 8 + (q : Int) / 8) % 2 = 0 <;> simp [c1, c2] at h <;> omega)
      | (exfalso
         have O := HO.out hik
         unfold sm at O
         omega)
  · have d1 : decide ((i : Int) < (k : Int)) = false := by simp; omega
    go_enter Try.func6, Try.ntmps6
    go_wp2_with (first
      | (go_at_call 5; refine (ScanKnown_any _).mono ?_; rintro e w2 ⟨rfl, b2⟩; have HB := Lib.hid b2; clear b2; have A := Lib.hid trivial)
      | (go_at_call 24; clear A; refine (Pick_any a0 _ _ (by omega) (by omega)).mono ?_; rintro e w3 ⟨rfl, rfl⟩; rw [HI.out])
      | (go_at_call 24; refine (Pick_any a1 _ _ (by omega) (by omega)).mono ?_; rintro e w3 ⟨rfl, rfl⟩; rw [HK.out])
      | (go_at_call 12; clear HI; refine (Place_any i _).mono ?_; rintro e w2 ⟨rfl, b2⟩; rw [HP.out.1, HP.out.2]; have HB := Lib.hid (chain HB.out b2); clear b2)
      | (go_at_call 12; refine (Place_any k _).mono ?_; rintro e w2 ⟨rfl, b2⟩; rw [HQ.out.1, HQ.out.2]; have HB := Lib.hid (chain HB.out b2); clear b2))
    all_goals first
      | (go_ret; exact ⟨rfl, HB.out⟩)
      | (exfalso; omega)
end Sc
end Go.Proofs.Ytngffhpkjekopaa
