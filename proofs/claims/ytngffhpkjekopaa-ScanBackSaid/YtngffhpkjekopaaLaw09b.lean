/- Closed facts of the chapter's examples. -/
import Derived.Test.YtngffhpkjekopaaLaw09a
namespace Go.Proofs.Ytngffhpkjekopaa
open Go.RowKit
namespace Sc

def nth (l : List Int) (i : Nat) : Int := l.getD i 0
def r2 : Nat → Int := nth [0, 1]
def l2 : Nat → Int := nth [5, -2]
theorem ex_p2 : pV 2 = 8 ∧ pE 2 = 0 := by decide
theorem ex_p0 : pV 0 = 0 ∧ pE 0 = 0 := by decide
theorem ex_p3 : pV 3 = 16 ∧ pE 3 = 0 := by decide
theorem ex_p63 : pV 63 = 63 ∧ pE 63 = 0 := by decide
theorem ex_p64 : pV 64 = 0 ∧ pE 64 = 3 := by decide
theorem ex_pm : pV (-1) = 0 ∧ pE (-1) = 3 := by decide
theorem ex_a : sE 0 2 r2 l2 = 0 ∧ sN 0 2 r2 l2 = 64 := by decide
theorem ex_aF : ∀ i, i < 64 → spF 0 r2 l2 2 i = blF (nth [0, 5, 8, -2]) 2 i := by decide +kernel
theorem ex_b : sE 1 2 r2 l2 = 0 ∧ sN 1 2 r2 l2 = 64 := by decide
theorem ex_bF : ∀ i, i < 64 → spF 1 r2 l2 2 i = blF (nth [1, 5, 16, -2]) 2 i := by decide +kernel
theorem ex_c : rE 0 64 (blF (nth [0, 5, 8, -2]) 2) = 0 ∧ rN 0 64 (blF (nth [0, 5, 8, -2]) 2) = 2 := by decide +kernel
theorem ex_cF : ∀ i, i < 2 → r2 i = rR 0 (blF (nth [0, 5, 8, -2]) 2) i ∧ l2 i = rL 0 (blF (nth [0, 5, 8, -2]) 2) i := by decide +kernel
theorem ex_d : sE 1 1 (nth [62]) (nth [1]) = 0 ∧ sN 1 1 (nth [62]) (nth [1]) = 64 := by decide
theorem ex_dF : ∀ i, i < 64 → spF 1 (nth [62]) (nth [1]) 1 i = blF (nth [63, 1]) 1 i := by decide +kernel
theorem ex_e : sE 1 1 (nth [63]) (nth [1]) = 11 ∧ sN 1 1 (nth [63]) (nth [1]) = 0 := by decide
theorem ex_f : sE 0 1 (nth [0]) (nth [0]) = 10 ∧ sN 0 1 (nth [0]) (nth [0]) = 0 := by decide
theorem ex_g : sE 0 1 (nth [0]) (nth [128]) = 10 ∧ sN 0 1 (nth [0]) (nth [128]) = 0 := by decide
theorem ex_h : sE 0 1 (nth [-1]) (nth [1]) = 11 ∧ sN 0 1 (nth [-1]) (nth [1]) = 0 := by decide
theorem ex_i : sE 2 0 (nth []) (nth []) = 3 ∧ sN 2 0 (nth []) (nth []) = 0 := by decide
theorem ex_j : rE 1 64 (blF (nth [0, 5]) 1) = 2 ∧ rN 1 64 (blF (nth [0, 5]) 1) = 0 := by decide +kernel
theorem ex_k : rE 0 3 (nth [1, 2, 3]) = 2 ∧ rN 0 3 (nth [1, 2, 3]) = 0 := by decide +kernel
end Sc
end Go.Proofs.Ytngffhpkjekopaa
