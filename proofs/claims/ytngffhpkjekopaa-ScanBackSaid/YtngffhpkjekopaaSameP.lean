/- SamePairs: two lists of the same pairs. -/
import Derived.Test.YtngffhpkjekopaaRunsR
import Derived.Test.YtngffhpkjekopaaSlices
namespace Go.Proofs.Ytngffhpkjekopaa
open Go.RowKit
namespace Sc

set_option maxRecDepth 100000 in
theorem SamePairs_row (b1 o1 c1 b2 o2 c2 n : Nat) (r l : Nat → Int) (w : World) (hn : n ≤ 1000000) (h1 : Pairs w b1 o1 n r l) (h2 : Pairs w b2 o2 n r l) :
    Calls Try.prog 16 #[.slice (some ⟨b1, o1, none⟩) n c1, .slice (some ⟨b2, o2, none⟩) n c2] w fun e w' => e = .returned (.bool true) ∧ Below w.heap.size w w' := by
  have H1 := Lib.hid h1
  have H2 := Lib.hid h2
  clear h1 h2
  go_enter Try.func16, Try.ntmps16
  go_wp2
  go_loopw [5] (fun i wr => ∃ k : Nat, k ≤ n ∧ i = .int .i64 k ∧ ∃ m, wr = w.drewN m) (fun i _ => n - (intOf i).toNat)
  case atStart => exact ⟨0, by omega, rfl, 0, rfl⟩
  case round =>
    obtain ⟨k, hk, rfl, m, rfl⟩ := hrel
    by_cases hkn : k < n
    · obtain ⟨e1, e2⟩ := H1.out k hkn
      obtain ⟨e3, e4⟩ := H2.out k hkn
      have b1 : (0 : Int) ≤ (k : Int) ∧ (k : Int) < (n : Int) := by omega
      go_wp2_with fail
      go_quiet (fail)
      go_wp2
      go_roundw
      case rel => exact ⟨k + 1, by omega, by go_num, _, rfl⟩
      case measure => simp [intOf]; omega
    · go_wp2
      go_ret
      exact ⟨rfl, below_drewN (Below.refl _ _) _⟩
theorem SamePairs_nil (a1 a2 : Option Addr) (c1 c2 : Nat) (w : World) :
    Calls Try.prog 16 #[.slice a1 0 c1, .slice a2 0 c2] w fun e w' => e = .returned (.bool true) ∧ Below w.heap.size w w' := by
  go_enter Try.func16, Try.ntmps16
  go_wp2
  refine wp_loop_rounds 1 ?_
  rw [rounds_succ]
  go_wp2
  go_ret
  exact ⟨rfl, Below.refl _ _⟩
theorem SamePairs_true (v1 v2 : Value) (n : Nat) (r l r' l' : Nat → Int) (w : World) (hn : n ≤ 1000000) (h1 : Pl w v1 n r l) (h2 : Pl w v2 n r' l') (hfg : ∀ i, i < n → r' i = r i ∧ l' i = l i) :
    Calls Try.prog 16 #[v1, v2] w fun e w' => e = .returned (.bool true) ∧ Below w.heap.size w w' := by
  have h2 := h2.congr hfg
  obtain ⟨a1, c1, rfl, _, _, k1⟩ := h1
  obtain ⟨a2, c2, rfl, _, _, k2⟩ := h2
  rcases k1 with ⟨h0, _⟩ | ⟨b1, o1, rfl, _, i1⟩
  · subst h0; exact SamePairs_nil _ _ _ _ _
  · rcases k2 with ⟨h0, _⟩ | ⟨b2, o2, rfl, _, i2⟩
    · subst h0; exact SamePairs_nil _ _ _ _ _
    · exact SamePairs_row _ _ _ _ _ _ _ _ _ _ hn i1 i2
end Sc
end Go.Proofs.Ytngffhpkjekopaa
