/- CosineInverts, CosineLines. -/
import Derived.Test.YtkeefdlnolcapaaLaw11a
namespace Go.Proofs.Ytkeefdlnolcapaa
open Go.RowKit
namespace Co

theorem vN_le (n : Nat) (f : Nat → Int) : vN n f ≤ 1000000 := by unfold vN; split <;> (try split) <;> omega
theorem lN_le (n : Nat) (f : Nat → Int) : lN n f ≤ 1000000 := by unfold lN; split <;> (try split) <;> omega

set_option maxRecDepth 100000 in
set_option maxHeartbeats 1000000 in
theorem inverts_short (v : Value) (a : Option Addr) (n cap : Nat) (hv : v = .slice a n cap) (f : Nat → Int) (w : World) (hs : Sl .i64 w v n f) (hn : n ≤ 80) :
    Calls Try.prog 3 #[v] w fun e w' => e = .returned (.bool true) ∧ Below w.heap.size w w' := by
  have SL0 := Lib.hid hs
  have SL := Lib.hid hs
  subst hv
  clear hs
  go_enter Try.func3, Try.ntmps3
  go_wp2_with fail
  refine (CopyInts_any _ n f _ (by omega) SL.out).mono ?_
  rintro e w1 ⟨gi, ci, rfl, i1, i2, i3, i4, hA, b1⟩
  have RI : Hid (Res .i64 w.heap.size w1 (.slice (some ⟨gi, 0, none⟩) n ci) n f) := Lib.hid (.inr ⟨gi, ci, rfl, i1, i2, i3, i4, hA⟩)
  have SL := Lib.hid (SL.out.below b1)
  have HB := Lib.hid b1
  clear hA b1
  go_wp2_with fail
  refine (Inverse_any _ n f _ RI.out.sl).mono ?_
  rintro e w2 ⟨va, rfl, hR, b2⟩
  have RI := Lib.hid (RI.out.below b2)
  have SL := Lib.hid (SL.out.below b2)
  have HB := Lib.hid (chain HB.out b2)
  have OA := Lib.hid hR.own
  have RA := Lib.hid hR
  have z2 := b2.size
  clear hR b2
  go_wp2_with fail
  refine (rInverse_any _ n f _ SL.out).mono ?_
  rintro e w3 ⟨vb, rfl, hR, b3⟩
  have RI := Lib.hid (RI.out.below b3)
  have RA := Lib.hid (RA.out.below b3)
  have HB := Lib.hid (chain HB.out b3)
  have RB := Lib.hid hR
  have z3 := b3.size
  clear hR b3 SL
  go_wp2_with fail
  refine (SameInts_true _ _ _ _ _ _ (vN_le n f) RA.out.sl RB.out.sl (fun _ _ => rfl)).mono ?_
  rintro e w4 ⟨rfl, b4⟩
  have RI := Lib.hid (RI.out.below b4)
  have RA := Lib.hid (RA.out.below b4)
  have HB := Lib.hid (chain HB.out b4)
  have z4 := b4.size
  clear b4 RB
  go_wp2_with fail
  refine (OverInts_any _ _ _ _ _ (vN_le n f) RA.out).mono ?_
  rintro e w5 ⟨rfl, g5⟩
  have RI := Lib.hid (RI.out.grown g5 (fun g hg e => by have := (OA.out g hg).1; have e1 : gi = g := Option.some.inj e; omega))
  have HB := Lib.hid (HB.out.grown g5 HB.out.size (fun g hg => by have := (OA.out g hg).1; omega))
  clear g5
  go_wp2_with fail
  refine (SameInts_true _ _ _ _ _ _ (by omega) RI.out.sl (SL0.out.below HB.out) (fun _ _ => rfl)).mono ?_
  rintro e w6 ⟨rfl, b6⟩
  have HB := Lib.hid (chain HB.out b6)
  clear b6
  go_wp2_with fail
  refine (awake_true _).mono ?_
  rintro e w7 ⟨rfl, b7⟩
  have HB := Lib.hid (chain HB.out b7)
  clear b7
  go_wp2_with fail
  go_ret
  exact ⟨rfl, HB.out⟩
theorem CosineInverts_walk (a : Option Addr) (n cap : Nat) (zs : List Int) (w : World) (w0 : IsRow .i64 w a n cap zs) :
    Calls Try.prog 3 #[.slice a n cap] w fun e w' => e = .returned (.bool true) ∧ Below w.heap.size w w' := by
  obtain ⟨hs, _⟩ := w0.sl
  by_cases h : n ≤ 80
  · exact inverts_short _ a n cap rfl _ w hs h
  · clear hs w0
    go_enter Try.func3, Try.ntmps3
    go_wp2_with (go_at_call 16; refine (awake_true _).mono ?_; rintro e w1 ⟨rfl, hw⟩)
    go_ret
    exact ⟨rfl, hw⟩

set_option maxRecDepth 100000 in
set_option maxHeartbeats 1000000 in
theorem lines_short (u x : Int) (v : Value) (a : Option Addr) (n cap : Nat) (hv : v = .slice a n cap) (f : Nat → Int) (w : World) (hs : Sl .i64 w v n f) (hn : n ≤ 20) :
    Calls Try.prog 5 #[.int .i64 u, .int .i64 x, v] w fun e w' => e = .returned (.bool true) ∧ Below w.heap.size w w' := by
  have SL0 := Lib.hid hs
  have SL := Lib.hid hs
  subst hv
  clear hs
  go_enter Try.func5, Try.ntmps5
  go_wp2_with fail
  refine (CopyInts_any _ n f _ (by omega) SL.out).mono ?_
  rintro e w1 ⟨gi, ci, rfl, i1, i2, i3, i4, hA, b1⟩
  have RI : Hid (Res .i64 w.heap.size w1 (.slice (some ⟨gi, 0, none⟩) n ci) n f) := Lib.hid (.inr ⟨gi, ci, rfl, i1, i2, i3, i4, hA⟩)
  have SL := Lib.hid (SL.out.below b1)
  have HB := Lib.hid b1
  clear hA b1
  go_wp2_with fail
  refine (Line_any _ n f _ RI.out.sl).mono ?_
  rintro e w2 ⟨va, rfl, hR, b2⟩
  have RI := Lib.hid (RI.out.below b2)
  have SL := Lib.hid (SL.out.below b2)
  have HB := Lib.hid (chain HB.out b2)
  have OA := Lib.hid hR.own
  have RA := Lib.hid hR
  have z2 := b2.size
  clear hR b2
  go_wp2_with fail
  refine (rLine_any _ n f _ SL.out).mono ?_
  rintro e w3 ⟨vb, rfl, hR, b3⟩
  have RI := Lib.hid (RI.out.below b3)
  have RA := Lib.hid (RA.out.below b3)
  have HB := Lib.hid (chain HB.out b3)
  have RB := Lib.hid hR
  have z3 := b3.size
  clear hR b3 SL
  go_wp2_with fail
  refine (Weight_any u x _).mono ?_
  rintro e w4 ⟨rfl, b4⟩
  have RI := Lib.hid (RI.out.below b4)
  have RA := Lib.hid (RA.out.below b4)
  have RB := Lib.hid (RB.out.below b4)
  have HB := Lib.hid (chain HB.out b4)
  have z4 := b4.size
  clear b4
  go_wp2_with fail
  refine (rWeight_any u x _).mono ?_
  rintro e w5 ⟨rfl, b5⟩
  have RI := Lib.hid (RI.out.below b5)
  have RA := Lib.hid (RA.out.below b5)
  have RB := Lib.hid (RB.out.below b5)
  have HB := Lib.hid (chain HB.out b5)
  have z5 := b5.size
  clear b5
  go_wp2_with fail
  refine (SameInts_true _ _ _ _ _ _ (lN_le n f) RA.out.sl RB.out.sl (fun _ _ => rfl)).mono ?_
  rintro e w6 ⟨rfl, b6⟩
  have RI := Lib.hid (RI.out.below b6)
  have RA := Lib.hid (RA.out.below b6)
  have HB := Lib.hid (chain HB.out b6)
  have z6 := b6.size
  clear b6 RB
  go_wp2_with fail
  refine (OverInts_any _ _ _ _ _ (lN_le n f) RA.out).mono ?_
  rintro e w7 ⟨rfl, g7⟩
  have RI := Lib.hid (RI.out.grown g7 (fun g hg e => by have := (OA.out g hg).1; have e1 : gi = g := Option.some.inj e; omega))
  have HB := Lib.hid (HB.out.grown g7 HB.out.size (fun g hg => by have := (OA.out g hg).1; omega))
  clear g7
  go_wp2_with fail
  refine (SameInts_true _ _ _ _ _ _ (by omega) RI.out.sl (SL0.out.below HB.out) (fun _ _ => rfl)).mono ?_
  rintro e w8 ⟨rfl, b8⟩
  have HB := Lib.hid (chain HB.out b8)
  clear b8
  go_wp2_with fail
  refine (awake_true _).mono ?_
  rintro e w9 ⟨rfl, b9⟩
  have HB := Lib.hid (chain HB.out b9)
  clear b9
  go_wp2_with fail
  go_ret
  exact ⟨rfl, HB.out⟩
theorem CosineLines_walk (u x : Int) (a : Option Addr) (n cap : Nat) (zs : List Int) (w : World) (_ : (Lit.int .i64 u).wf = true) (_ : (Lit.int .i64 x).wf = true) (w0 : IsRow .i64 w a n cap zs) :
    Calls Try.prog 5 #[.int .i64 u, .int .i64 x, .slice a n cap] w fun e w' => e = .returned (.bool true) ∧ Below w.heap.size w w' := by
  obtain ⟨hs, _⟩ := w0.sl
  by_cases h : n ≤ 20
  · exact lines_short u x _ a n cap rfl _ w hs h
  · clear hs w0
    go_enter Try.func5, Try.ntmps5
    go_wp2_with (go_at_call 16; refine (awake_true _).mono ?_; rintro e w1 ⟨rfl, hw⟩)
    go_ret
    exact ⟨rfl, hw⟩
end Co
end Go.Proofs.Ytkeefdlnolcapaa
