/- QuantBlocks. -/
import Derived.Test.YtkajfabmdljffaaLaw10
import Derived.Test.YtkajfabmdljffaaQuantBl
namespace Go.Proofs.Ytkajfabmdljffaa
open Go.RowKit
namespace Qu

theorem iN_le (n : Nat) (f : Nat → Int) (q : Int) : iN n f q ≤ 64 := by rcases iE_cases n f q with h | h <;> omega
theorem aN_le (n : Nat) (f : Nat → Int) (q c : Int) : aN n f q c ≤ 64 := by unfold aN; split <;> omega

set_option maxRecDepth 100000 in
set_option maxHeartbeats 1000000 in
theorem blocks_short (v : Value) (a : Option Addr) (n cap : Nat) (hv : v = .slice a n cap) (f : Nat → Int) (q c : Int) (w : World) (hs : Sl .i64 w v n f) (hn : n ≤ 80) :
    Calls Try.prog 8 #[v, .int .i64 q, .int .i64 c] w fun e w' => e = .returned (.bool true) ∧ Below w.heap.size w w' := by
  have SL0 := Lib.hid hs
  have SL := Lib.hid hs
  subst hv
  clear hs
  go_enter Try.func8, Try.ntmps8
  go_wp2_with fail
  refine (CopyInts_any _ n f _ (by omega) SL.out).mono ?_
  rintro e w1 ⟨gi, ci, rfl, i1, i2, i3, i4, hA, b1⟩
  have RI : Hid (Res .i64 w.heap.size w1 (.slice (some ⟨gi, 0, none⟩) n ci) n f) := Lib.hid (.inr ⟨gi, ci, rfl, i1, i2, i3, i4, hA⟩)
  have SL := Lib.hid (SL.out.below b1)
  have HB := Lib.hid b1
  clear hA b1
  go_wp2_with fail
  refine (Inter_any _ n f _ _ RI.out.sl).mono ?_
  rintro e w2 ⟨va, rfl, hR, b2⟩
  have RI := Lib.hid (RI.out.below b2)
  have SL := Lib.hid (SL.out.below b2)
  have HB := Lib.hid (chain HB.out b2)
  have OA := Lib.hid hR.own
  have RA := Lib.hid hR
  have z2 := b2.size
  clear hR b2
  go_wp2_with fail
  refine (rInter_any _ n f _ _ SL.out).mono ?_
  rintro e w3 ⟨vb, rfl, hR, b3⟩
  have RI := Lib.hid (RI.out.below b3)
  have SL := Lib.hid (SL.out.below b3)
  have RA := Lib.hid (RA.out.below b3)
  have HB := Lib.hid (chain HB.out b3)
  have RB := Lib.hid hR
  have z3 := b3.size
  clear hR b3
  go_wp2_with fail
  refine (Intra_any _ n f _ _ _ RI.out.sl).mono ?_
  rintro e w4 ⟨vc, rfl, hR, b4⟩
  have RI := Lib.hid (RI.out.below b4)
  have SL := Lib.hid (SL.out.below b4)
  have RA := Lib.hid (RA.out.below b4)
  have RB := Lib.hid (RB.out.below b4)
  have HB := Lib.hid (chain HB.out b4)
  have OC := Lib.hid hR.own
  have RC := Lib.hid hR
  have z4 := b4.size
  clear hR b4
  go_wp2_with fail
  refine (rIntra_any _ n f _ _ _ SL.out).mono ?_
  rintro e w5 ⟨vd, rfl, hR, b5⟩
  have RI := Lib.hid (RI.out.below b5)
  have SL := Lib.hid (SL.out.below b5)
  have RA := Lib.hid (RA.out.below b5)
  have RB := Lib.hid (RB.out.below b5)
  have RC := Lib.hid (RC.out.below b5)
  have HB := Lib.hid (chain HB.out b5)
  have RD := Lib.hid hR
  have z5 := b5.size
  clear hR b5
  go_wp2_with fail
  refine (SameInts_true _ _ _ _ _ _ (Nat.le_trans (iN_le n f q) (by decide)) RA.out.sl RB.out.sl (fun _ _ => rfl)).mono ?_
  rintro e w6 ⟨rfl, b6⟩
  have RI := Lib.hid (RI.out.below b6)
  have SL := Lib.hid (SL.out.below b6)
  have RA := Lib.hid (RA.out.below b6)
  have RC := Lib.hid (RC.out.below b6)
  have RD := Lib.hid (RD.out.below b6)
  have HB := Lib.hid (chain HB.out b6)
  have z6 := b6.size
  clear b6
  go_wp2_with fail
  refine (SameInts_true _ _ _ _ _ _ (Nat.le_trans (aN_le n f q c) (by decide)) RC.out.sl RD.out.sl (fun _ _ => rfl)).mono ?_
  rintro e w7 ⟨rfl, b7⟩
  have RI := Lib.hid (RI.out.below b7)
  have SL := Lib.hid (SL.out.below b7)
  have RA := Lib.hid (RA.out.below b7)
  have RC := Lib.hid (RC.out.below b7)
  have HB := Lib.hid (chain HB.out b7)
  have z7 := b7.size
  clear b7
  go_wp2_with fail
  refine (OverInts_any _ _ _ _ _ (Nat.le_trans (iN_le n f q) (by decide)) RA.out).mono ?_
  rintro e w8 ⟨rfl, g8⟩
  have RI := Lib.hid (RI.out.grown g8 (fun g hg e => by have := (OA.out g hg).1; have e1 : gi = g := Option.some.inj e; omega))
  have RC := Lib.hid (RC.out.grown g8 (fun g hg e => by have := (OA.out g hg).2; have := (OC.out g e).1; omega))
  have HB := Lib.hid (HB.out.grown g8 HB.out.size (fun g hg => by have := (OA.out g hg).1; omega))
  have z8 := g8.size
  clear g8
  go_wp2_with fail
  refine (OverInts_any _ _ _ _ _ (Nat.le_trans (aN_le n f q c) (by decide)) RC.out).mono ?_
  rintro e w9 ⟨rfl, g9⟩
  have RI := Lib.hid (RI.out.grown g9 (fun g hg e => by have := (OC.out g hg).1; have e1 : gi = g := Option.some.inj e; omega))
  have HB := Lib.hid (HB.out.grown g9 HB.out.size (fun g hg => by have := (OC.out g hg).1; omega))
  have z9 := g9.size
  clear g9
  go_wp2_with fail
  refine (SameInts_true _ _ _ _ _ _ (by omega) RI.out.sl (SL0.out.below HB.out) (fun _ _ => rfl)).mono ?_
  rintro e w10 ⟨rfl, b10⟩
  have HB := Lib.hid (chain HB.out b10)
  clear b10
  go_wp2_with fail
  refine (awake_true _).mono ?_
  rintro e w11 ⟨rfl, b11⟩
  have HB := Lib.hid (chain HB.out b11)
  clear b11
  go_wp2_with fail
  go_ret
  exact ⟨rfl, HB.out⟩

theorem QuantBlocks_walk (a : Option Addr) (n cap : Nat) (zs : List Int) (q c : Int) (w : World) (w0 : IsRow .i64 w a n cap zs) (_ : (Lit.int .i64 q).wf = true) (_ : (Lit.int .i64 c).wf = true) :
    Calls Try.prog 8 #[.slice a n cap, .int .i64 q, .int .i64 c] w fun e w' => e = .returned (.bool true) ∧ Below w.heap.size w w' := by
  obtain ⟨hs, _⟩ := w0.sl
  by_cases h : n ≤ 80
  · exact blocks_short _ a n cap rfl _ q c w hs h
  · clear hs w0
    go_enter Try.func8, Try.ntmps8
    go_wp2_with (go_at_call 21; refine (awake_true _).mono ?_; rintro e w1 ⟨rfl, hw⟩)
    go_ret
    exact ⟨rfl, hw⟩
end Qu
end Go.Proofs.Ytkajfabmdljffaa
