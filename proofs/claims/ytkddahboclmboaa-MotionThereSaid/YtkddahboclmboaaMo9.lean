/- motion: a row of what is fetched of the chapter's picture; awake; MotionHalves; MotionKnown. -/
import Derived.Test.YtkddahboclmboaaMo8
import Derived.Test.YtkddahboclmboaaBytesB
import Derived.Deep.RegionWith
import Derived.Deep.Cut
namespace Go.Proofs.Ytkddahboclmboaa
open Go.RowKit
namespace Mo
open Fr

theorem wf_small {x : Int} (h : -1000 ≤ x ∧ x ≤ 1000) : (Lit.int .i64 x).wf = true := by
  simp only [Lit.wf, Bool.and_eq_true, decide_eq_true_eq]
  have h1 : IntKind.i64.min = -9223372036854775808 := by decide
  have h2 : IntKind.i64.max = 9223372036854775807 := by decide
  rw [h1, h2]; omega
theorem Half_all (x : Int) (hx : (Lit.int .i64 x).wf = true) (w : World) : Calls Try.prog 25 #[.int .i64 x] w fun e w' => e = .returned (.int .i64 (x.tdiv 2)) ∧ w = w' := by
  have hb := bounds_i64 hx
  have ht := tdiv2 x
  have x1 : IntKind.i64.wrap (x.tdiv 2) = x.tdiv 2 := IntWalk.i64_in _ (by omega)
  have x2 : wrap64 (x.tdiv 2) = x.tdiv 2 := IntWalk.wrap64_in _ (by omega)
  clear hb ht hx
  go_enter Try.func25, Try.ntmps25
  go_wp2
  go_ret
  exact ⟨rfl, rfl⟩
theorem rHalf_all (x : Int) (hx : (Lit.int .i64 x).wf = true) (w : World) : Calls Try.prog 26 #[.int .i64 x] w fun e w' => e = .returned (.int .i64 (x.tdiv 2)) ∧ w = w' := by
  have hb := bounds_i64 hx
  have ht := tdiv2 x
  have x1 : IntKind.i64.wrap (x.tdiv 2) = x.tdiv 2 := IntWalk.i64_in _ (by omega)
  have x2 : wrap64 (x.tdiv 2) = x.tdiv 2 := IntWalk.wrap64_in _ (by omega)
  clear hb ht hx
  go_enter Try.func26, Try.ntmps26
  go_wp2
  go_ret
  exact ⟨rfl, rfl⟩
theorem qcif_any (g a : Int) (w : World) : Calls Try.prog 28 #[.int .i64 g, .int .i64 a] w fun e w' => e = .returned (.agg #[.int .i64 0, .int .i64 g, .int .i64 a]) ∧ Below w.heap.size w w' := by
  go_enter Try.func28, Try.ntmps28
  go_wp2_with fail
  refine bodyPost_ret (results_cell_row rfl _ _ w.heap.size _ _ _ _ rfl (heap_alloc_new w _) Try.underlying23 rfl (by kernel_rfl)) rfl ?_
  exact ⟨rfl, (Below.refl _ _).alloc (Nat.le_refl _) _⟩
def GotRow (w wx : World) (F : Nat → Int) (u11 u12 : Value) : Prop :=
  ∃ g1 c1, u11 = .slice (some ⟨g1, 0, none⟩) 64 c1 ∧ u12 = .int .i64 0 ∧ g1 < wx.heap.size ∧ 64 ≤ c1 ∧ c1 ≤ maxLen ∧ Arr wx .u8 g1 64 F ∧ Below w.heap.size w wx
set_option maxRecDepth 100000 in
set_option maxHeartbeats 1000000 in
theorem row_true (n g a k x y : Int) (wv : Value) (wF : Nat → Int) (w : World) (hw : Sl .u8 w wv 8 wF) (he : fetE 38016 n g a k x y = 0) (hF : ∀ i, i < 8 → fetF chF n g a k x y i = wF i) (hx : (Lit.int .i64 x).wf = true) (hy : (Lit.int .i64 y).wf = true) :
    Calls Try.prog 29 #[.agg #[.int .i64 n, .int .i64 g, .int .i64 a], .int .i64 k, .int .i64 x, .int .i64 y, wv] w fun e w' => e = .returned (.bool true) ∧ Below w.heap.size w w' := by
  have HW := Lib.hid hw
  have HE := Lib.hid he
  have HF := Lib.hid hF
  have HN : Hid (fetN 38016 n g a k x y = 64) := Lib.hid (by unfold fetN; rw [if_pos he])
  have B0 := Lib.hid (heap_alloc_new w (.cells #[.int .i64 n, .int .i64 g, .int .i64 a] 23))
  have HB0 := Lib.hid ((Below.refl w.heap.size w).alloc (Nat.le_refl _) (.cells #[.int .i64 n, .int .i64 g, .int .i64 a] 23)).drew
  clear hw he hF
  go_enter Try.func29, Try.ntmps29
  go_upto_region 1 with fail
  go_cut [11, 12] from 22 (fun u11 u12 wx => GotRow w wx (fetF chF n g a k x y) u11 u12)
  case first =>
    obtain ⟨c0, c1, c2⟩ := cells3 B0.out
    go_region_with (first
      | (go_at_call 27; refine (chapter_any _).mono ?_; rintro e w1 ⟨v1, rfl, hR, hB⟩; obtain ⟨d0, d1, d2⟩ := cells3 ((hB.block w.heap.size (by simp [World.drew])).trans B0.out); have HR := Lib.hid hR; have HB := Lib.hid (chain HB0.out hB); clear hR hB)
      | (go_at_call 17; refine (Fetch_any _ 38016 chF n g a k x y _ HR.out.sl hx hy).mono ?_; rintro e w2 ⟨v2, rfl, hR, hB⟩; rw [show ((38016 : Nat) : Int) = 38016 from rfl] at hR ⊢; rw [HE.out]; rw [HN.out] at hR; have HR2 := Lib.hid hR; have HB := Lib.hid (chain HB.out hB); clear hR hB))
    all_goals (go_wp2_with fail; go_meet)
    all_goals
      rcases HR2.out with ⟨h0, _⟩ | ⟨g1, c1, rfl, r1, r2, r3, r4, r5⟩
      · omega
      · exact ⟨g1, c1, rfl, rfl, r2, r3, r4, r5, HB.out⟩
  case rest =>
    obtain ⟨g1, c1, rfl, rfl, r2, r3, r4, r5, hB⟩ := hcut
    have HA := Lib.hid r5
    have HB := Lib.hid hB
    have sl := fun w' => slice_h g1 0 64 c1 8 (by omega) (by omega) w'
    clear r5 hB
    go_wp2_with fail
    refine (SameBytes_true _ _ 8 (fetF chF n g a k x y) wF _ ⟨_, c1, rfl, by omega, r4, .inr ⟨g1, 0, rfl, r2, fun i hi => HA.out.ints i (by omega)⟩⟩ (HW.out.below HB.out) HF.out).mono ?_
    rintro e w4 ⟨rfl, b4⟩
    go_wp2_with fail
    go_ret
    exact ⟨rfl, by first | exact chain HB.out b4 | (subst b4; exact HB.out)⟩
theorem row_lit (n g a k x y : Int) (L : List Int) (cs : Array Value) (w : World) (hcs : cs = (L.map (Value.int .u8)).toArray) (hL : L.length = 8) (he : fetE 38016 n g a k x y = 0) (hF : ∀ i, i < 8 → fetF chF n g a k x y i = L.getD i 0) (hx : (Lit.int .i64 x).wf = true) (hy : (Lit.int .i64 y).wf = true) :
    Calls Try.prog 29 #[.agg #[.int .i64 n, .int .i64 g, .int .i64 a], .int .i64 k, .int .i64 x, .int .i64 y, .slice (some ⟨w.heap.size, 0, none⟩) 8 8] (w.alloc (.cells cs 5)) fun e w' => e = .returned (.bool true) ∧ Below w.heap.size w w' := by
  refine (row_true n g a k x y _ (fun i => L.getD i 0) _ ⟨_, 8, rfl, Nat.le_refl _, by decide, .inr ⟨_, 0, rfl, by simp, fun i hi => ?_⟩⟩ he hF hx hy).mono (fun e w' ⟨h1, h2⟩ => ⟨h1, (((Below.refl w.heap.size w).alloc (Nat.le_refl _) _).trans (h2.mono (by simp)))⟩)
  subst hcs
  rw [Nat.zero_add, cell_of_row _ _ i _ 5 (0, 0) (heap_alloc_new w _)]
  simp [List.getElem?_eq_getElem (show i < L.length by omega)]
theorem aw1 : fetE 38016 0 1 2 1 3 0 = 0 ∧ ∀ i, i < 8 → fetF chF 0 1 2 1 3 0 i = [(19 : Int), 20, 21, 22, 23, 24, 25, 26].getD i 0 := by decide +kernel
theorem aw2 : vE 0 1 1 0 0 = 0 ∧ vE 0 1 1 (-1) 0 = 12 := by decide +kernel
set_option maxRecDepth 100000 in
set_option maxHeartbeats 1000000 in
theorem awake_any (w : World) : Calls Try.prog 24 #[] w fun e w' => e = .returned (.bool true) ∧ Below w.heap.size w w' := by
  have A1 := Lib.hid aw1
  have A2 := Lib.hid aw2
  go_enter Try.func24, Try.ntmps24
  go_wp2_with fail
  refine (Half_all _ (wf_small (by decide)) _).mono ?_
  rintro e w0 ⟨rfl, rfl⟩
  go_wp2_with fail
  refine (qcif_any 1 1 _).mono ?_
  rintro e w1 ⟨rfl, b1⟩
  have HB := Lib.hid b1
  clear b1
  go_wp2_with fail
  refine (Fits_any 0 1 1 0 0 _ (wf_small (by decide)) (wf_small (by decide))).mono ?_
  rintro e w2 ⟨rfl, b2⟩
  rw [A2.out.1]
  have HB := Lib.hid (chain HB.out b2)
  clear b2
  go_wp2_with fail
  refine (qcif_any 1 1 _).mono ?_
  rintro e w3 ⟨rfl, b3⟩
  have HB := Lib.hid (chain HB.out b3)
  clear b3
  go_wp2_with fail
  refine (Fits_any 0 1 1 (-1) 0 _ (wf_small (by decide)) (wf_small (by decide))).mono ?_
  rintro e w4 ⟨rfl, b4⟩
  rw [A2.out.2]
  have HB := Lib.hid (chain HB.out b4)
  clear b4
  go_wp2_with fail
  refine (qcif_any 1 2 _).mono ?_
  rintro e w5 ⟨rfl, b5⟩
  have HB := Lib.hid (chain HB.out b5)
  clear b5
  go_wp2_with fail
  refine (row_lit 0 1 2 1 3 0 [19, 20, 21, 22, 23, 24, 25, 26] _ _ rfl rfl A1.out.1 A1.out.2 (wf_small (by decide)) (wf_small (by decide))).mono ?_
  rintro e w6 ⟨rfl, b6⟩
  have HB := Lib.hid (chain HB.out b6)
  clear b6
  go_wp2_with fail
  go_ret
  exact ⟨rfl, HB.out⟩
theorem MotionHalves_any (x : Int) (w : World) (hx : (Lit.int .i64 x).wf = true) : Calls Try.prog 4 #[.int .i64 x] w fun e w' => e = .returned (.bool true) ∧ Below w.heap.size w w' := by
  have k1 : (x.tdiv 2 == x.tdiv 2) = true := by simp
  go_enter Try.func4, Try.ntmps4
  go_wp2_with fail
  refine (Half_all x hx _).mono ?_
  rintro e w0 ⟨rfl, rfl⟩
  go_wp2_with fail
  refine (rHalf_all x hx _).mono ?_
  rintro e w0 ⟨rfl, rfl⟩
  go_wp2_with fail
  refine (awake_any _).mono ?_
  rintro e w1 ⟨rfl, b1⟩
  go_wp2_with fail
  go_ret
  exact ⟨rfl, b1⟩
end Mo
end Go.Proofs.Ytkddahboclmboaa
