/- ScanSpreads, ScanRuns. -/
import Derived.Test.YtngffhpkjekopaaPairIn
import Derived.Test.YtngffhpkjekopaaCopy
import Derived.Test.YtngffhpkjekopaaLaw09d
import Derived.Test.YtngffhpkjekopaaSpreadR
import Derived.Test.YtngffhpkjekopaaRunsR
namespace Go.Proofs.Ytngffhpkjekopaa
open Go.RowKit
theorem Pairs.grown {w w' : World} {b o n : Nat} {r l : Nat → Int} {row : Option Nat} (h : Pairs w b o n r l) (hg : w.grownBy w' row) (hb : b < w.heap.size) (hr : ∀ g, row = some g → b = g → False) : Pairs w' b o n r l := by
  have hr' : some b ≠ row := fun e => hr b e.symm rfl
  intro i hi
  have e := hg.block b hb hr'
  exact ⟨(World.cell?_of_block (a := ⟨b, o + i * 2, none⟩) e).trans (h i hi).1, (World.cell?_of_block (a := ⟨b, o + i * 2 + 1, none⟩) e).trans (h i hi).2⟩

namespace Sc

theorem sN_le (first : Int) (n : Nat) (r l : Nat → Int) : sN first n r l ≤ 1000000 := by unfold sN; split <;> omega

set_option maxRecDepth 100000 in
set_option maxHeartbeats 1000000 in
theorem spreads_some (v : Value) (y : Addr) (n c : Nat) (first i : Int) (r l : Nat → Int) (w : World) (hv : v = .slice (some y) n c) (hs : Pl w v n r l) (hn : n ≤ 80) :
    Calls Try.prog 3 #[v, .int .i64 first, .int .i64 i] w fun e w' => e = .returned (.bool true) ∧ Below w.heap.size w w' := by

  have SL := Lib.hid hs
  clear hs
  subst hv
  have k1 : (sE first n r l == sE first n r l) = true := by simp
  have k2 : (pV i == pV i) = true := by simp
  have k3 : (pE i == pE i) = true := by simp
  go_enter Try.func3, Try.ntmps3
  go_wp2_with (at_builtin; (refine wp_copy_pairs rfl _ _ rfl w rfl y n c r l rfl SL.out (by omega) ?_); intro v1 w1 hcp)
  obtain ⟨gi, ci, rfl, i1, i2, i3, i4, i5, i6, b1⟩ := hcp
  have PI : Hid (Pl w1 (.slice (some ⟨gi, 0, none⟩) n ci) n r l) := Lib.hid ⟨_, _, rfl, i3, i4, .inr ⟨_, _, rfl, i2, i5⟩⟩
  have PG := Lib.hid i5
  have HB := Lib.hid b1
  have z1 := b1.size
  clear i5 i6 b1
  go_wp2_with fail
  refine (Spread_any _ _ n r l _ PI.out (by omega)).mono ?_
  rintro e w2 ⟨va, rfl, hR, b2⟩
  have RA := Lib.hid hR
  have OA := Lib.hid hR.own
  have PG := Lib.hid (PG.out.below b2 i2)
  have HB := Lib.hid (chain HB.out b2)
  have z2 := b2.size
  clear hR b2
  go_wp2_with fail
  refine (rSpread_any _ _ n r l _ (SL.out.below HB.out) (by omega)).mono ?_
  rintro e w3 ⟨vb, rfl, hR, b3⟩
  have RB := Lib.hid hR
  have RA := Lib.hid (RA.out.below b3)
  have PG := Lib.hid (PG.out.below b3 (by omega))
  have HB := Lib.hid (chain HB.out b3)
  have z3 := b3.size
  clear hR b3
  go_wp2_with fail
  refine (Place_any i _).mono ?_
  rintro e w4 ⟨rfl, b4⟩
  have RB := Lib.hid (RB.out.below b4)
  have RA := Lib.hid (RA.out.below b4)
  have PG := Lib.hid (PG.out.below b4 (by omega))
  have HB := Lib.hid (chain HB.out b4)
  have z4 := b4.size
  clear b4
  go_wp2_with fail
  refine (rPlace_any i _).mono ?_
  rintro e w5 ⟨rfl, b5⟩
  have RB := Lib.hid (RB.out.below b5)
  have RA := Lib.hid (RA.out.below b5)
  have PG := Lib.hid (PG.out.below b5 (by omega))
  have HB := Lib.hid (chain HB.out b5)
  have z5 := b5.size
  clear b5
  go_wp2_with fail
  refine (SameInts_true _ _ _ _ _ _ (sN_le _ _ _ _) RA.out.sl RB.out.sl (fun _ _ => rfl)).mono ?_
  rintro e w6 ⟨rfl, b6⟩
  have RA := Lib.hid (RA.out.below b6)
  have PG := Lib.hid (PG.out.below b6 (by omega))
  have HB := Lib.hid (chain HB.out b6)
  have z6 := b6.size
  clear b6 RB
  go_wp2_with fail
  refine (OverInts_any _ _ _ _ _ (sN_le _ _ _ _) RA.out).mono ?_
  rintro e w7 ⟨rfl, g7⟩
  have PG := Lib.hid (PG.out.grown g7 (by omega) (fun g hg e => by have := (OA.out g hg).1; omega))
  have z7 := g7.size
  have HB := Lib.hid (HB.out.grown g7 HB.out.size (fun g hg => by have := (OA.out g hg).1; omega))
  clear g7
  go_wp2_with fail
  refine (SamePairs_true _ _ n r l r l _ (by omega) ⟨_, _, rfl, i3, i4, .inr ⟨_, _, rfl, by omega, PG.out⟩⟩ (SL.out.below HB.out) (fun _ _ => ⟨rfl, rfl⟩)).mono ?_
  rintro e w8 ⟨rfl, b8⟩
  have HB := Lib.hid (chain HB.out b8)
  clear b8
  go_wp2_with fail
  refine (awake_any _).mono ?_
  rintro e w9 ⟨rfl, b9⟩
  have HB := Lib.hid (chain HB.out b9)
  clear b9
  go_wp2_with fail
  go_ret
  exact ⟨rfl, HB.out⟩

set_option maxRecDepth 100000 in
set_option maxHeartbeats 1000000 in
theorem spreads_nilp (v : Value) (first i : Int) (r l : Nat → Int) (w : World) (hv : v = .slice none 0 0) (hs : Pl w v 0 r l) :
    Calls Try.prog 3 #[v, .int .i64 first, .int .i64 i] w fun e w' => e = .returned (.bool true) ∧ Below w.heap.size w w' := by
  have hn : (0 : Nat) ≤ 80 := by omega
  have SL := Lib.hid hs
  clear hs
  subst hv
  have k1 : (sE first 0 r l == sE first 0 r l) = true := by simp
  have k2 : (pV i == pV i) = true := by simp
  have k3 : (pE i == pE i) = true := by simp
  go_enter Try.func3, Try.ntmps3
  have hcp := copied_nil w r l 39
  obtain ⟨gi, ci, hg, i1, i2, i3, i4, i5, i6, b1⟩ := hcp
  cases hg
  have PI : Hid (Pl (w.alloc (.cells #[] 39)) (.slice (some ⟨w.heap.size, 0, none⟩) 0 0) 0 r l) := Lib.hid ⟨_, _, rfl, i3, i4, .inr ⟨_, _, rfl, i2, i5⟩⟩
  have PG := Lib.hid i5
  have HB := Lib.hid b1
  have z1 := b1.size
  clear i5 i6 b1
  go_wp2_with fail
  refine (Spread_any _ _ 0 r l _ PI.out (by omega)).mono ?_
  rintro e w2 ⟨va, rfl, hR, b2⟩
  have RA := Lib.hid hR
  have OA := Lib.hid hR.own
  have PG := Lib.hid (PG.out.below b2 i2)
  have HB := Lib.hid (chain HB.out b2)
  have z2 := b2.size
  clear hR b2
  go_wp2_with fail
  refine (rSpread_any _ _ 0 r l _ (SL.out.below HB.out) (by omega)).mono ?_
  rintro e w3 ⟨vb, rfl, hR, b3⟩
  have RB := Lib.hid hR
  have RA := Lib.hid (RA.out.below b3)
  have PG := Lib.hid (PG.out.below b3 (by omega))
  have HB := Lib.hid (chain HB.out b3)
  have z3 := b3.size
  clear hR b3
  go_wp2_with fail
  refine (Place_any i _).mono ?_
  rintro e w4 ⟨rfl, b4⟩
  have RB := Lib.hid (RB.out.below b4)
  have RA := Lib.hid (RA.out.below b4)
  have PG := Lib.hid (PG.out.below b4 (by omega))
  have HB := Lib.hid (chain HB.out b4)
  have z4 := b4.size
  clear b4
  go_wp2_with fail
  refine (rPlace_any i _).mono ?_
  rintro e w5 ⟨rfl, b5⟩
  have RB := Lib.hid (RB.out.below b5)
  have RA := Lib.hid (RA.out.below b5)
  have PG := Lib.hid (PG.out.below b5 (by omega))
  have HB := Lib.hid (chain HB.out b5)
  have z5 := b5.size
  clear b5
  go_wp2_with fail
  refine (SameInts_true _ _ _ _ _ _ (sN_le _ _ _ _) RA.out.sl RB.out.sl (fun _ _ => rfl)).mono ?_
  rintro e w6 ⟨rfl, b6⟩
  have RA := Lib.hid (RA.out.below b6)
  have PG := Lib.hid (PG.out.below b6 (by omega))
  have HB := Lib.hid (chain HB.out b6)
  have z6 := b6.size
  clear b6 RB
  go_wp2_with fail
  refine (OverInts_any _ _ _ _ _ (sN_le _ _ _ _) RA.out).mono ?_
  rintro e w7 ⟨rfl, g7⟩
  have PG := Lib.hid (PG.out.grown g7 (by omega) (fun g hg e => by have := (OA.out g hg).1; omega))
  have z7 := g7.size
  have HB := Lib.hid (HB.out.grown g7 HB.out.size (fun g hg => by have := (OA.out g hg).1; omega))
  clear g7
  go_wp2_with fail
  refine (SamePairs_true _ _ 0 r l r l _ (by omega) ⟨_, _, rfl, i3, i4, .inr ⟨_, _, rfl, by omega, PG.out⟩⟩ (SL.out.below HB.out) (fun _ _ => ⟨rfl, rfl⟩)).mono ?_
  rintro e w8 ⟨rfl, b8⟩
  have HB := Lib.hid (chain HB.out b8)
  clear b8
  go_wp2_with fail
  refine (awake_any _).mono ?_
  rintro e w9 ⟨rfl, b9⟩
  have HB := Lib.hid (chain HB.out b9)
  clear b9
  go_wp2_with fail
  go_ret
  exact ⟨rfl, HB.out⟩

theorem ScanSpreads_any (a : Option Addr) (n c : Nat) (r l : Nat → Int) (first i : Int) (w : World) (hp : IsPl w a n c r l) (_ : (Lit.int .i64 first).wf = true) (_ : (Lit.int .i64 i).wf = true) :
    Calls Try.prog 3 #[.slice a n c, .int .i64 first, .int .i64 i] w fun e w' => e = .returned (.bool true) ∧ Below w.heap.size w w' := by
  by_cases h : n ≤ 80
  · cases a with
    | none =>
      rcases hp with ⟨_, rfl, rfl⟩ | ⟨x, hx, _⟩
      · exact spreads_nilp _ first i r l w rfl (IsPl.pl (.inl ⟨rfl, rfl, rfl⟩))
      · cases hx
    | some y => exact spreads_some _ y n c first i r l w rfl hp.pl h
  · clear hp
    go_enter Try.func3, Try.ntmps3
    go_wp2_with fail
    refine (awake_any _).mono ?_
    rintro e w1 ⟨rfl, b1⟩
    go_wp2_with fail
    go_ret
    exact ⟨rfl, b1⟩

set_option maxRecDepth 100000 in
set_option maxHeartbeats 1000000 in
theorem runs_short (v : Value) (a : Option Addr) (n c : Nat) (f : Nat → Int) (first : Int) (w : World) (hv : v = .slice a n c) (hs : Sl .i64 w v n f) (hn : n ≤ 80) :
    Calls Try.prog 4 #[v, .int .i64 first] w fun e w' => e = .returned (.bool true) ∧ Below w.heap.size w w' := by
  have SL := Lib.hid hs
  clear hs
  subst hv
  have k1 : (rE first n f == rE first n f) = true := by simp
  have M : Hid (rN first n f ≤ 1000000) := Lib.hid (by unfold rN; split; · have := (ruS_bd f first.toNat (64 - first.toNat)).1; omega
                                                       · omega)
  go_enter Try.func4, Try.ntmps4
  go_wp2_with fail
  refine (CopyInts_any _ n f _ (by omega) SL.out).mono ?_
  rintro e w1 ⟨gi, ci, rfl, i1, i2, i3, i4, hA, b1⟩
  have RI : Hid (Res .i64 w.heap.size w1 (.slice (some ⟨gi, 0, none⟩) n ci) n f) := Lib.hid (.inr ⟨gi, ci, rfl, i1, i2, i3, i4, hA⟩)
  have HB := Lib.hid b1
  clear hA b1
  go_wp2_with fail
  refine (Runs_any _ first n f _ RI.out.sl).mono ?_
  rintro e w2 ⟨va, rfl, hR, b2⟩
  have RA := Lib.hid hR
  have RI := Lib.hid (RI.out.below b2)
  have HB := Lib.hid (chain HB.out b2)
  clear hR b2
  go_wp2_with fail
  refine (rRuns_any _ first n f _ (SL.out.below HB.out)).mono ?_
  rintro e w3 ⟨vb, rfl, hR, b3⟩
  have RB := Lib.hid hR
  have RA := Lib.hid (RA.out.below b3)
  have RI := Lib.hid (RI.out.below b3)
  have HB := Lib.hid (chain HB.out b3)
  clear hR b3
  go_wp2_with fail
  refine (SamePairs_true _ _ _ _ _ _ _ _ M.out RA.out.pl RB.out.pl (fun _ _ => ⟨rfl, rfl⟩)).mono ?_
  rintro e w4 ⟨rfl, b4⟩
  have RI := Lib.hid (RI.out.below b4)
  have HB := Lib.hid (chain HB.out b4)
  clear b4
  go_wp2_with fail
  refine (SameInts_true _ _ _ _ _ _ (by omega) RI.out.sl (SL.out.below HB.out) (fun _ _ => rfl)).mono ?_
  rintro e w5 ⟨rfl, b5⟩
  have HB := Lib.hid (chain HB.out b5)
  clear b5
  go_wp2_with fail
  refine (awake_any _).mono ?_
  rintro e w9 ⟨rfl, b9⟩
  have HB := Lib.hid (chain HB.out b9)
  clear b9
  go_wp2_with fail
  go_ret
  exact ⟨rfl, HB.out⟩
theorem ScanRuns_any (a : Option Addr) (n c : Nat) (zs : List Int) (first : Int) (w : World) (w0 : IsRow .i64 w a n c zs) (_ : (Lit.int .i64 first).wf = true) :
    Calls Try.prog 4 #[.slice a n c, .int .i64 first] w fun e w' => e = .returned (.bool true) ∧ Below w.heap.size w w' := by
  obtain ⟨hs, _⟩ := w0.sl
  by_cases h : n ≤ 80
  · exact runs_short _ a n c _ first w rfl hs h
  · clear hs w0
    go_enter Try.func4, Try.ntmps4
    go_wp2_with fail
    refine (awake_any _).mono ?_
    rintro e w1 ⟨rfl, b1⟩
    go_wp2_with fail
    go_ret
    exact ⟨rfl, b1⟩
end Sc
end Go.Proofs.Ytngffhpkjekopaa
