/- ScanStarts. -/
import Derived.Test.YtngffhpkjekopaaPairIn
import Derived.Test.YtngffhpkjekopaaLaw09d
import Derived.Test.YtngffhpkjekopaaLaw09g
namespace Go.Proofs.Ytngffhpkjekopaa
open Go.RowKit
namespace Sc

theorem up_pairs {w : World} {g n : Nat} {r l : Nat → Int} (h : Pairs w g 0 n r l) : Pairs (w.setCell ⟨g, 0, none⟩ (.int .i64 (r 0 + 1))) g 0 n (up r) l := by
  intro i hi
  obtain ⟨h1, h2⟩ := h i hi
  have e2 : (w.setCell ⟨g, 0, none⟩ (.int .i64 (r 0 + 1))).cell? ⟨g, 0 + i * 2 + 1, none⟩ = w.cell? ⟨g, 0 + i * 2 + 1, none⟩ := World.cell?_setCell_other _ _ _ _ (fun e => by cases e)
  refine ⟨?_, e2.trans h2⟩
  by_cases e : i = 0
  · subst e
    exact World.cell?_setCell_same' _ _ _ (by have := h1; simp at this; rw [this]; rfl)
  · have e1 : (w.setCell ⟨g, 0, none⟩ (.int .i64 (r 0 + 1))).cell? ⟨g, 0 + i * 2, none⟩ = w.cell? ⟨g, 0 + i * 2, none⟩ := World.cell?_setCell_other _ _ _ _ (fun e => by injection e; omega)
    rw [e1, show up r i = r i by simp [up, e]]
    exact h1

set_option maxRecDepth 100000 in
set_option maxHeartbeats 1000000 in
theorem starts_some (v : Value) (y : Addr) (n c : Nat) (r l : Nat → Int) (w : World) (hv : v = .slice (some y) n c) (hs : Pl w v n r l) (h0 : 0 < n) (hn : n ≤ 60) :
    Calls Try.prog 8 #[v] w fun e w' => e = .returned (.bool true) ∧ Below w.heap.size w w' := by
  have SL := Lib.hid hs
  clear hs
  subst hv
  have k0 : ((n : Int) == 0) = false := by simp; omega
  have kb : (0 : Int) < (n : Int) := by omega
  have kd : decide (0 < n) = true := by simp [h0]
  have kd2 : decide (60 < n) = false := by simp; omega
  go_enter Try.func8, Try.ntmps8
  go_wp2_with fail
  refine (awake_any _).mono ?_
  rintro e w1 ⟨rfl, b1⟩
  have HB := Lib.hid b1
  clear b1
  go_wp2_with fail
  refine (Spread_any _ 1 n r l _ (SL.out.below HB.out) (by omega)).mono ?_
  rintro e w2 ⟨va, rfl, hR, b2⟩
  have RA := Lib.hid hR
  have OA := Lib.hid hR.own
  have HB := Lib.hid (chain HB.out b2)
  clear hR b2
  by_cases hr : r 0 < 0 ∨ 100 < r 0
  · have e0 := up_bad (l := l) h0 hr
    have k1 : (sE 1 n r l != 0) = true := by simp [e0]
    clear e0
    by_cases d : r 0 < 0
    · have d3 : decide (r 0 < 0) = true := by simp [d]
      clear hr
      go_wp2_with (at_builtin; (refine wp_copy_pairs rfl _ _ rfl w2 rfl y n c r l rfl (SL.out.below HB.out) (by omega) ?_); rintro v1 w3 ⟨gi, ci, rfl, i1, i2, i3, i4, i5, i6, b3⟩; have RA := Lib.hid (RA.out.below b3); have PG := Lib.hid i5; have hgi : w.heap.size ≤ gi := Nat.le_trans HB.out.size i1; have HB := Lib.hid (chain HB.out b3); have FZ := i6 0; have CE : w3.cell? ⟨gi, 0, none⟩ = some (.int .i64 (r 0)) := (by simpa using (i5 0 h0).1); clear i5 i6 b3)
      go_ret
      exact ⟨rfl, HB.out⟩
    · have d2 : 100 < r 0 := by omega
      have d3 : decide (r 0 < 0) = false := by simp [d]
      have d4 : decide (100 < r 0) = true := by simp [d2]
      clear hr
      go_wp2_with (at_builtin; (refine wp_copy_pairs rfl _ _ rfl w2 rfl y n c r l rfl (SL.out.below HB.out) (by omega) ?_); rintro v1 w3 ⟨gi, ci, rfl, i1, i2, i3, i4, i5, i6, b3⟩; have RA := Lib.hid (RA.out.below b3); have PG := Lib.hid i5; have hgi : w.heap.size ≤ gi := Nat.le_trans HB.out.size i1; have HB := Lib.hid (chain HB.out b3); have FZ := i6 0; have CE : w3.cell? ⟨gi, 0, none⟩ = some (.int .i64 (r 0)) := (by simpa using (i5 0 h0).1); clear i5 i6 b3)
      go_ret
      exact ⟨rfl, HB.out⟩
  · have d1 : ¬ r 0 < 0 := by omega
    have d2 : ¬ 100 < r 0 := by omega
    have d3 : decide (r 0 < 0) = false := by simp [d1]
    have d4 : decide (100 < r 0) = false := by simp [d2]
    have x1 : IntKind.i64.wrap (r 0 + 1) = r 0 + 1 := IntWalk.i64_in _ (by omega)
    have UE : Hid (sE 0 n (up r) l = sE 1 n r l) := Lib.hid (up_sE (by omega))
    have UN : Hid (sN 0 n (up r) l = sN 1 n r l) := Lib.hid (by unfold sN; rw [UE.out])
    clear hr
    go_wp2_with (at_builtin; (refine wp_copy_pairs rfl _ _ rfl w2 rfl y n c r l rfl (SL.out.below HB.out) (by omega) ?_); rintro v1 w3 ⟨gi, ci, rfl, i1, i2, i3, i4, i5, i6, b3⟩; have RA := Lib.hid (RA.out.below b3); have PG := Lib.hid i5; have hgi : w.heap.size ≤ gi := Nat.le_trans HB.out.size i1; have HB := Lib.hid (chain HB.out b3); have FZ := i6 0; have CE : w3.cell? ⟨gi, 0, none⟩ = some (.int .i64 (r 0)) := (by simpa using (i5 0 h0).1); clear i5 i6 b3)
    refine (spreads_true _ _ 0 _ n _ (up r) l (spF 1 r l n) _ ⟨_, _, rfl, i3, i4, .inr ⟨_, _, rfl, ?_, up_pairs PG.out⟩⟩ (RA.out.grown (grown_set (World.grownBy.refl w3 (some gi)) 0 _) (fun g hg e => by cases hg; have := (OA.out _ e).2; omega)).sl (by omega) UN.out UE.out (fun i _ => by rw [up_F])).mono ?_
    · simpa [World.setCell] using i2
    rintro e w4 ⟨rfl, b4⟩
    have HB := Lib.hid (chain (HB.out.setCell (p := ⟨gi, 0, none⟩) hgi (.int .i64 (r 0 + 1))) b4)
    clear b4
    go_wp2_with fail
    go_ret
    exact ⟨rfl, HB.out⟩
theorem ScanStarts_any (a : Option Addr) (n c : Nat) (r l : Nat → Int) (w : World) (hp : IsPl w a n c r l) :
    Calls Try.prog 8 #[.slice a n c] w fun e w' => e = .returned (.bool true) ∧ Below w.heap.size w w' := by
  by_cases h0 : n = 0
  · have k0 : ((n : Int) == 0) = true := by simp [h0]
    clear hp
    go_enter Try.func8, Try.ntmps8
    go_wp2_with fail
    refine (awake_any _).mono ?_
    rintro e w1 ⟨rfl, b1⟩
    go_wp2_with fail
    go_ret
    exact ⟨rfl, b1⟩
  · by_cases h : n ≤ 60
    · cases a with
      | none =>
        rcases hp with ⟨_, h1, rfl⟩ | ⟨x, hx, _⟩
        · exact absurd h1 h0
        · cases hx
      | some y => exact starts_some _ y n c r l w rfl hp.pl (by omega) h
    · have k0 : ((n : Int) == 0) = false := by simp [h0]
      have k1 : decide (60 < n) = true := by simp; omega
      clear hp
      go_enter Try.func8, Try.ntmps8
      go_wp2_with fail
      refine (awake_any _).mono ?_
      rintro e w1 ⟨rfl, b1⟩
      go_wp2_with fail
      go_ret
      exact ⟨rfl, b1⟩
end Sc
end Go.Proofs.Ytngffhpkjekopaa
