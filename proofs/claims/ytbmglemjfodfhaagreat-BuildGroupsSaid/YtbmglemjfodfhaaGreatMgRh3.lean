/- The document's motion: Fits, Fetch. | The document's Fetch. -/
import Derived.Test.YtbmglemjfodfhaaGreatMgFet
import Derived.Test.YtbmglemjfodfhaaGreatMgRg1
set_option linter.unusedVariables false
set_option linter.unusedSimpArgs false
namespace Go.Proofs.YtbmglemjfodfhaaGreat
open Go.RowKit
namespace Mo
def Spt (w : World) (B : Nat) (n g a : Int) : Prop := w.heap[B]? = some (.cells #[.int .i64 n, .int .i64 g, .int .i64 a] 28 (0, 0))
theorem Spt.below {w w' : World} {B : Nat} {n g a : Int} (h : Spt w B n g a) (hb : Below w.heap.size w w') : Spt w' B n g a := (hb.block B (Array.getElem?_eq_some_iff.1 h).1).trans h
theorem Spt.cells {w : World} {B : Nat} {n g a : Int} (h : Spt w B n g a) : w.cell? ⟨B, 0, none⟩ = some (.int .i64 n) ∧ w.cell? ⟨B, 1, none⟩ = some (.int .i64 g) ∧ w.cell? ⟨B, 2, none⟩ = some (.int .i64 a) := cells3 h
def ixN (n g a k x y : Int) (i : Nat) : Nat := (pD n k + (pY n g a k y + (i / 8 : Nat)) * pW n k + pX n g a k x + (i % 8 : Nat)).toNat
theorem fet_ix (f : Nat → Int) (n g a k x y : Int) (i : Nat) : fetF f n g a k x y i = f (ixN n g a k x y i) := rfl
theorem rHalf_all (x : Int) (hx : (Lit.int .i64 x).wf = true) (w : World) : Calls Tryz.prog 148 #[.int .i64 x] w fun e w' => e = .returned (.int .i64 (x.tdiv 2)) ∧ w = w' := by
  have hb := bounds_i64 hx
  have ht := tdiv2 x
  have x1 : IntKind.i64.wrap (x.tdiv 2) = x.tdiv 2 := IntWalk.i64_in _ (by omega)
  have x2 : wrap64 (x.tdiv 2) = x.tdiv 2 := IntWalk.wrap64_in _ (by omega)
  clear hb ht hx
  go_enter Tryz.func148, Tryz.ntmps148
  go_wp2
  go_ret
  exact ⟨rfl, rfl⟩
end Mo
namespace Rf
open Fr Mo
def prt (x : Int) : Bool := decide (-15 ≤ x ∧ x ≤ 15)
theorem rpart_any (x : Int) (w : World) : Calls Tryz.prog 106 #[.int .i64 x] w fun e w' => e = .returned (.bool (prt x)) ∧ w = w' := by
  by_cases h1 : -15 ≤ x
  · have d1 : decide (-15 ≤ x) = true := by simp [h1]
    by_cases h2 : x ≤ 15
    · have E : Hid (prt x = true) := Lib.hid (by unfold prt; simp; omega)
      go_enter Tryz.func106, Tryz.ntmps106
      go_wp2
      go_ret
      exact ⟨by rw [E.out]; rfl, rfl⟩
    · have E : Hid (prt x = false) := Lib.hid (by unfold prt; simp; omega)
      go_enter Tryz.func106, Tryz.ntmps106
      go_wp2
      go_ret
      exact ⟨by rw [E.out]; rfl, rfl⟩
  · have E : Hid (prt x = false) := Lib.hid (by unfold prt; simp; omega)
    have d1 : decide (-15 ≤ x) = false := by simp [h1]
    go_enter Tryz.func106, Tryz.ntmps106
    go_wp2
    go_ret
    exact ⟨by rw [E.out]; rfl, rfl⟩
theorem rFits_no (n g a x y : Int) (w : World) (hc : cE n g a ≠ 0) : Calls Tryz.prog 63 #[.agg #[.int .i64 n, .int .i64 g, .int .i64 a], .int .i64 x, .int .i64 y] w fun e w' => e = .returned (.int .i64 (vE n g a x y)) ∧ Below w.heap.size w w' := by
  have E : Hid (vE n g a x y = cE n g a) := Lib.hid (by unfold vE; rw [if_pos hc])
  have t0 : (cE n g a != 0) = true := by simpa using hc
  clear hc
  go_enter Tryz.func63, Tryz.ntmps63
  go_wp2_with fail
  refine (rCorner_any n g a _).mono ?_
  rintro e w1 ⟨rfl, b1⟩
  have HS := Lib.hid (Spt.below (show Spt (w.alloc (.cells #[.int .i64 n, .int .i64 g, .int .i64 a] 28)) w.heap.size n g a from heap_alloc_new w _) b1)
  have HB := Lib.hid (chain ((Below.refl w.heap.size w).alloc (Nat.le_refl _) (.cells #[.int .i64 n, .int .i64 g, .int .i64 a] 28)) b1)
  clear b1
  go_wp2_with fail
  go_ret
  exact ⟨by rw [E.out]; rfl, HB.out⟩
theorem rFits_far (n g a x y : Int) (w : World) (hc : cE n g a = 0) (hf : x < -15 ∨ 15 < x ∨ y < -15 ∨ 15 < y) : Calls Tryz.prog 63 #[.agg #[.int .i64 n, .int .i64 g, .int .i64 a], .int .i64 x, .int .i64 y] w fun e w' => e = .returned (.int .i64 (vE n g a x y)) ∧ Below w.heap.size w w' := by
  have E : Hid (vE n g a x y = 3) := Lib.hid (by unfold vE; rw [if_neg (by omega), if_pos hf])
  have HC := Lib.hid hc
  clear hc
  by_cases hp : prt x = true
  · have hq : prt y = false := by
      unfold prt at hp ⊢
      rw [decide_eq_true_eq] at hp
      rw [decide_eq_false_iff_not]; omega
    have HP := Lib.hid hp
    have HQ := Lib.hid hq
    clear hp hq hf
    go_enter Tryz.func63, Tryz.ntmps63
    go_wp2_with fail
    refine (rCorner_any n g a _).mono ?_
    rintro e w1 ⟨rfl, b1⟩
    have HS := Lib.hid (Spt.below (show Spt (w.alloc (.cells #[.int .i64 n, .int .i64 g, .int .i64 a] 28)) w.heap.size n g a from heap_alloc_new w _) b1)
    have HB := Lib.hid (chain ((Below.refl w.heap.size w).alloc (Nat.le_refl _) (.cells #[.int .i64 n, .int .i64 g, .int .i64 a] 28)) b1)
    clear b1
    rw [HC.out]
    go_wp2_with fail
    refine (rpart_any x _).mono ?_
    rintro e w2 ⟨rfl, rfl⟩
    rw [HP.out]
    go_wp2_with fail
    refine (rpart_any y _).mono ?_
    rintro e w2 ⟨rfl, rfl⟩
    rw [HQ.out]
    go_wp2_with fail
    go_ret
    exact ⟨by rw [E.out]; rfl, HB.out⟩
  · have HP : Hid (prt x = false) := Lib.hid (by simpa using hp)
    clear hp hf
    go_enter Tryz.func63, Tryz.ntmps63
    go_wp2_with fail
    refine (rCorner_any n g a _).mono ?_
    rintro e w1 ⟨rfl, b1⟩
    have HS := Lib.hid (Spt.below (show Spt (w.alloc (.cells #[.int .i64 n, .int .i64 g, .int .i64 a] 28)) w.heap.size n g a from heap_alloc_new w _) b1)
    have HB := Lib.hid (chain ((Below.refl w.heap.size w).alloc (Nat.le_refl _) (.cells #[.int .i64 n, .int .i64 g, .int .i64 a] 28)) b1)
    clear b1
    rw [HC.out]
    go_wp2_with fail
    refine (rpart_any x _).mono ?_
    rintro e w2 ⟨rfl, rfl⟩
    rw [HP.out]
    go_wp2_with fail
    go_ret
    exact ⟨by rw [E.out]; rfl, HB.out⟩
theorem rFits_near (n g a x y : Int) (w : World) (hc : cE n g a = 0) (hf : (-15 ≤ x ∧ x ≤ 15) ∧ -15 ≤ y ∧ y ≤ 15) : Calls Tryz.prog 63 #[.agg #[.int .i64 n, .int .i64 g, .int .i64 a], .int .i64 x, .int .i64 y] w fun e w' => e = .returned (.int .i64 (vE n g a x y)) ∧ Below w.heap.size w w' := by
  have HP : Hid (prt x = true) := Lib.hid (by unfold prt; rw [decide_eq_true_eq]; omega)
  have HQ : Hid (prt y = true) := Lib.hid (by unfold prt; rw [decide_eq_true_eq]; omega)
  have bX := cX_bd n g a hc
  have bY := cY_bd n g a hc
  have bW := wh_bd n
  have E0 : vE n g a x y = if cX n g a + x < 0 ∨ wV n < cX n g a + x + 16 ∨ cY n g a + y < 0 ∨ hV n < cY n g a + y + 16 then 12 else 0 := by unfold vE; rw [if_neg (by omega), if_neg (by omega)]
  have HC := Lib.hid hc
  obtain ⟨X, hX⟩ : ∃ X, cX n g a = X := ⟨_, rfl⟩
  obtain ⟨Y, hY⟩ : ∃ Y, cY n g a = Y := ⟨_, rfl⟩
  obtain ⟨W, hW⟩ : ∃ W, wV n = W := ⟨_, rfl⟩
  obtain ⟨H, hH⟩ : ∃ H, hV n = H := ⟨_, rfl⟩
  rw [hX, hY, hW, hH] at E0
  rw [hX, hW] at bX
  rw [hY, hH] at bY
  rw [hW, hH] at bW
  have HX := Lib.hid hX
  have HY := Lib.hid hY
  have HW := Lib.hid hW
  have HH := Lib.hid hH
  have HE0 := Lib.hid E0
  clear hX hY hW hH E0 hc
  have bX' : 0 ≤ X ∧ X ≤ 400 := by omega
  have bY' : 0 ≤ Y ∧ Y ≤ 400 := by omega
  have bW' : 0 ≤ W ∧ W ≤ 352 ∧ 0 ≤ H ∧ H ≤ 288 := bW
  clear bX bY bW
  by_cases h0 : X + x < 0
  · have d0 : decide (X + x < 0) = true := by simp [h0]
    have E : Hid (vE n g a x y = 12) := Lib.hid (by rw [HE0.out, if_pos (by omega)])
    go_enter Tryz.func63, Tryz.ntmps63
    go_wp2_with fail
    refine (rCorner_any n g a _).mono ?_
    rintro e w1 ⟨rfl, b1⟩
    have HS := Lib.hid (Spt.below (show Spt (w.alloc (.cells #[.int .i64 n, .int .i64 g, .int .i64 a] 28)) w.heap.size n g a from heap_alloc_new w _) b1)
    have HB := Lib.hid (chain ((Below.refl w.heap.size w).alloc (Nat.le_refl _) (.cells #[.int .i64 n, .int .i64 g, .int .i64 a] 28)) b1)
    clear b1
    rw [HC.out, HX.out, HY.out]
    go_wp2_with fail
    refine (rpart_any x _).mono ?_
    rintro e w2 ⟨rfl, rfl⟩
    rw [HP.out]
    go_wp2_with fail
    refine (rpart_any y _).mono ?_
    rintro e w2 ⟨rfl, rfl⟩
    rw [HQ.out]
    obtain ⟨s0, s1, s2⟩ := HS.out.cells
    go_wp2_with fail
    refine (rSize_any n _).mono ?_
    rintro e w2 ⟨rfl, rfl⟩
    rw [HW.out, HH.out]
    go_wp2_with fail
    go_ret
    exact ⟨by rw [E.out]; rfl, HB.out⟩
  · have d0 : decide (X + x < 0) = false := by simp [h0]
    by_cases h1 : W < X + x + 16
    · have d1 : decide (W < X + x + 16) = true := by simp [h1]
      have E : Hid (vE n g a x y = 12) := Lib.hid (by rw [HE0.out, if_pos (by omega)])
      go_enter Tryz.func63, Tryz.ntmps63
      go_wp2_with fail
      refine (rCorner_any n g a _).mono ?_
      rintro e w1 ⟨rfl, b1⟩
      have HS := Lib.hid (Spt.below (show Spt (w.alloc (.cells #[.int .i64 n, .int .i64 g, .int .i64 a] 28)) w.heap.size n g a from heap_alloc_new w _) b1)
      have HB := Lib.hid (chain ((Below.refl w.heap.size w).alloc (Nat.le_refl _) (.cells #[.int .i64 n, .int .i64 g, .int .i64 a] 28)) b1)
      clear b1
      rw [HC.out, HX.out, HY.out]
      go_wp2_with fail
      refine (rpart_any x _).mono ?_
      rintro e w2 ⟨rfl, rfl⟩
      rw [HP.out]
      go_wp2_with fail
      refine (rpart_any y _).mono ?_
      rintro e w2 ⟨rfl, rfl⟩
      rw [HQ.out]
      obtain ⟨s0, s1, s2⟩ := HS.out.cells
      go_wp2_with fail
      refine (rSize_any n _).mono ?_
      rintro e w2 ⟨rfl, rfl⟩
      rw [HW.out, HH.out]
      go_wp2_with fail
      go_ret
      exact ⟨by rw [E.out]; rfl, HB.out⟩
    · have d1 : decide (W < X + x + 16) = false := by simp [h1]
      by_cases h2 : Y + y < 0
      · have d2 : decide (Y + y < 0) = true := by simp [h2]
        have E : Hid (vE n g a x y = 12) := Lib.hid (by rw [HE0.out, if_pos (by omega)])
        go_enter Tryz.func63, Tryz.ntmps63
        go_wp2_with fail
        refine (rCorner_any n g a _).mono ?_
        rintro e w1 ⟨rfl, b1⟩
        have HS := Lib.hid (Spt.below (show Spt (w.alloc (.cells #[.int .i64 n, .int .i64 g, .int .i64 a] 28)) w.heap.size n g a from heap_alloc_new w _) b1)
        have HB := Lib.hid (chain ((Below.refl w.heap.size w).alloc (Nat.le_refl _) (.cells #[.int .i64 n, .int .i64 g, .int .i64 a] 28)) b1)
        clear b1
        rw [HC.out, HX.out, HY.out]
        go_wp2_with fail
        refine (rpart_any x _).mono ?_
        rintro e w2 ⟨rfl, rfl⟩
        rw [HP.out]
        go_wp2_with fail
        refine (rpart_any y _).mono ?_
        rintro e w2 ⟨rfl, rfl⟩
        rw [HQ.out]
        obtain ⟨s0, s1, s2⟩ := HS.out.cells
        go_wp2_with fail
        refine (rSize_any n _).mono ?_
        rintro e w2 ⟨rfl, rfl⟩
        rw [HW.out, HH.out]
        go_wp2_with fail
        go_ret
        exact ⟨by rw [E.out]; rfl, HB.out⟩
      · have d2 : decide (Y + y < 0) = false := by simp [h2]
        by_cases h3 : H < Y + y + 16
        · have d3 : decide (H < Y + y + 16) = true := by simp [h3]
          have E : Hid (vE n g a x y = 12) := Lib.hid (by rw [HE0.out, if_pos (by omega)])
          go_enter Tryz.func63, Tryz.ntmps63
          go_wp2_with fail
          refine (rCorner_any n g a _).mono ?_
          rintro e w1 ⟨rfl, b1⟩
          have HS := Lib.hid (Spt.below (show Spt (w.alloc (.cells #[.int .i64 n, .int .i64 g, .int .i64 a] 28)) w.heap.size n g a from heap_alloc_new w _) b1)
          have HB := Lib.hid (chain ((Below.refl w.heap.size w).alloc (Nat.le_refl _) (.cells #[.int .i64 n, .int .i64 g, .int .i64 a] 28)) b1)
          clear b1
          rw [HC.out, HX.out, HY.out]
          go_wp2_with fail
          refine (rpart_any x _).mono ?_
          rintro e w2 ⟨rfl, rfl⟩
          rw [HP.out]
          go_wp2_with fail
          refine (rpart_any y _).mono ?_
          rintro e w2 ⟨rfl, rfl⟩
          rw [HQ.out]
          obtain ⟨s0, s1, s2⟩ := HS.out.cells
          go_wp2_with fail
          refine (rSize_any n _).mono ?_
          rintro e w2 ⟨rfl, rfl⟩
          rw [HW.out, HH.out]
          go_wp2_with fail
          go_ret
          exact ⟨by rw [E.out]; rfl, HB.out⟩
        · have d3 : decide (H < Y + y + 16) = false := by simp [h3]
          have E : Hid (vE n g a x y = 0) := Lib.hid (by rw [HE0.out, if_neg (by omega)])
          go_enter Tryz.func63, Tryz.ntmps63
          go_wp2_with fail
          refine (rCorner_any n g a _).mono ?_
          rintro e w1 ⟨rfl, b1⟩
          have HS := Lib.hid (Spt.below (show Spt (w.alloc (.cells #[.int .i64 n, .int .i64 g, .int .i64 a] 28)) w.heap.size n g a from heap_alloc_new w _) b1)
          have HB := Lib.hid (chain ((Below.refl w.heap.size w).alloc (Nat.le_refl _) (.cells #[.int .i64 n, .int .i64 g, .int .i64 a] 28)) b1)
          clear b1
          rw [HC.out, HX.out, HY.out]
          go_wp2_with fail
          refine (rpart_any x _).mono ?_
          rintro e w2 ⟨rfl, rfl⟩
          rw [HP.out]
          go_wp2_with fail
          refine (rpart_any y _).mono ?_
          rintro e w2 ⟨rfl, rfl⟩
          rw [HQ.out]
          obtain ⟨s0, s1, s2⟩ := HS.out.cells
          go_wp2_with fail
          refine (rSize_any n _).mono ?_
          rintro e w2 ⟨rfl, rfl⟩
          rw [HW.out, HH.out]
          go_wp2_with fail
          go_ret
          exact ⟨by rw [E.out]; rfl, HB.out⟩
theorem rFits_any (n g a x y : Int) (w : World) : Calls Tryz.prog 63 #[.agg #[.int .i64 n, .int .i64 g, .int .i64 a], .int .i64 x, .int .i64 y] w fun e w' => e = .returned (.int .i64 (vE n g a x y)) ∧ Below w.heap.size w w' := by
  by_cases hc : cE n g a = 0
  · by_cases hf : x < -15 ∨ 15 < x ∨ y < -15 ∨ 15 < y
    · exact rFits_far n g a x y w hc hf
    · exact rFits_near n g a x y w hc (by omega)
  · exact rFits_no n g a x y w hc
end Rf
end Go.Proofs.YtbmglemjfodfhaaGreat
namespace Go.Proofs.YtbmglemjfodfhaaGreat
open Go.RowKit
namespace Rf
open Fr Mo
def hX (k x : Int) : Int := if k ≤ 4 then x else x.tdiv 2
theorem rpix (f : Nat → Int) {n g a k x y : Int} {N : Nat} (hv : vE n g a x y = 0) (hk : 1 ≤ k ∧ k ≤ 6) (hN : (N : Int) = zV n) (r i : Nat) (hr : r < 8) (hi : i < 8) :
    ∃ p : Nat, plA n g a k + ((r : Int) + hX k y) * plS n g a k + (i : Int) + hX k x = (p : Int) ∧ p < N ∧ fetF f n g a k x y (8 * r + i) = f p := by
  obtain ⟨hc, _⟩ := vE_zero hv
  have hn := (cE_cases n g a hc).1
  obtain ⟨h1, h2, h3, h4⟩ := pXY_in hv hk
  obtain ⟨d1, d2, d3, _, _, _⟩ := pD_in hn hk
  have E : plE n g a k = 0 := by unfold plE; rw [if_neg (by omega), if_neg (by omega)]
  refine ⟨ixN n g a k x y (8 * r + i), ?_, ?_, by rw [fet_ix]⟩
  · have e8 : (8 * r + i) / 8 = r := by omega
    have e9 : (8 * r + i) % 8 = i := by omega
    have m1 : 0 ≤ (pY n g a k y + (r : Int)) * pW n k := Int.mul_nonneg (by omega) d3
    unfold ixN
    rw [e8, e9, Int.toNat_of_nonneg (by omega)]
    unfold plA plS hX
    rw [if_pos E, if_pos E]
    by_cases h : k ≤ 4
    · rw [if_pos h, if_pos h, if_pos h, if_pos h]
      unfold pD pY pW pX
      rw [if_pos h, if_pos h, if_pos h, if_pos h]
      have e1 : (cY n g a + (k - 1) / 2 * 8 + y + (r : Int)) * wV n = (cY n g a + (k - 1) / 2 * 8) * wV n + ((r : Int) + y) * wV n := by rw [← Int.add_mul]; congr 1; omega
      rw [e1]; omega
    · rw [if_neg h, if_neg h, if_neg h, if_neg h]
      unfold pD pY pW pX
      rw [if_neg h, if_neg h, if_neg h, if_neg h]
      have e1 : (cY n g a / 2 + y.tdiv 2 + (r : Int)) * (wV n / 2) = cY n g a / 2 * (wV n / 2) + ((r : Int) + y.tdiv 2) * (wV n / 2) := by rw [← Int.add_mul]; congr 1; omega
      rw [e1]
      obtain ⟨Z, hZ⟩ : ∃ Z, wV n * hV n = Z := ⟨_, rfl⟩
      rw [hZ]
      rcases (by omega : k = 5 ∨ k = 6) with rfl | rfl
      · rw [if_pos rfl]; simp; omega
      · rw [if_neg (by decide)]; simp; omega
  · have e8 : (8 * r + i) / 8 = r := by omega
    have e9 : (8 * r + i) % 8 = i := by omega
    have m1 : 0 ≤ (pY n g a k y + (r : Int)) * pW n k := Int.mul_nonneg (by omega) d3
    have m2 : (pY n g a k y + (r : Int)) * pW n k ≤ (pH n k - 1) * pW n k := Int.mul_le_mul_of_nonneg_right (by omega) d3
    rw [Int.sub_mul, Int.one_mul, Int.mul_comm (pH n k)] at m2
    unfold ixN
    rw [e8, e9]
    omega
def OwnF (w0 wr : World) (v : Value) (n : Nat) (F : Nat → Int) : Prop := wr.ownsRow w0.heap.size 5 1 v n ((List.range n).map fun j => .int .u8 (F j)) ∧ Below w0.heap.size w0 wr
set_option maxRecDepth 100000 in
set_option maxHeartbeats 2000000 in
theorem rfetch_lo (b o N c : Nat) (f : Nat → Int) (n g a k x y : Int) (w : World) (h : Ints w .u8 b o N f) (hb : b < w.heap.size) (hN : (N : Int) = zV n) (hk : 1 ≤ k ∧ k ≤ 4) (hv : vE n g a x y = 0) (hwx : (Lit.int .i64 x).wf = true) (hwy : (Lit.int .i64 y).wf = true) :
    Calls Tryz.prog 108 #[.slice (some ⟨b, o, none⟩) N c, .agg #[.int .i64 n, .int .i64 g, .int .i64 a], .int .i64 k, .int .i64 x, .int .i64 y] w fun e w' => ∃ v, e = .returned (.tuple #[v, .int .i64 0]) ∧ Res .u8 w.heap.size w' v 64 (fetF f n g a k x y) ∧ Below w.heap.size w w' := by
  obtain ⟨hc, hxy, _⟩ := vE_zero hv
  have E : plE n g a k = 0 := by unfold plE; rw [if_neg (by omega), if_neg (by omega)]
  have PIX := Lib.hid (fun r i hr hi => rpix f hv (show 1 ≤ k ∧ k ≤ 6 by omega) hN r i hr hi)
  have hzb : zV n ≤ 152064 := by unfold zV; split <;> (try split) <;> omega
  have hNb : N ≤ 152064 := by omega
  obtain ⟨A, hA⟩ : ∃ A, plA n g a k = A := ⟨_, rfl⟩
  obtain ⟨S, hS⟩ : ∃ S, plS n g a k = S := ⟨_, rfl⟩
  obtain ⟨xh, hxh⟩ : ∃ z, hX k x = z := ⟨_, rfl⟩
  obtain ⟨yh, hyh⟩ : ∃ z, hX k y = z := ⟨_, rfl⟩
  have bA : -1000000 ≤ A ∧ A ≤ 1000000 := by
    have h1 := PIX.out 0 0 (by omega) (by omega)
    have bX := cX_bd n g a hc
    have bY := cY_bd n g a hc
    have hn := (cE_cases n g a hc).1
    rw [← hA]
    unfold plA
    rw [if_pos E]
    rcases hn with rfl | rfl
    · have w1 : wV 0 = 176 := rfl
      have h1 : hV 0 = 144 := rfl
      rw [w1] at bX; rw [h1] at bY
      rw [w1, h1]
      split <;> omega
    · have w1 : wV 1 = 352 := rfl
      have h1 : hV 1 = 288 := rfl
      rw [w1] at bX; rw [h1] at bY
      rw [w1, h1]
      split <;> omega
  have td := tdiv2 x
  have te := tdiv2 y
  have bxh : -15 ≤ xh ∧ xh ≤ 15 := by rw [← hxh]; unfold hX; split <;> omega
  have byh : -15 ≤ yh ∧ yh ≤ 15 := by rw [← hyh]; unfold hX; split <;> omega
  rw [hA, hS, hxh, hyh] at PIX
  have HC := Lib.hid hc
  have HE := Lib.hid E
  have HA := Lib.hid hA
  have HSt := Lib.hid hS
  have HV := Lib.hid hv
  have HZ := Lib.hid hN
  have HX := Lib.hid hxh
  have HY := Lib.hid hyh
  have IN := Lib.hid h
  have t1 : (((N : Nat) : Int) != ((N : Nat) : Int)) = false := by simp
  have dk : decide (4 < k) = false := by simp; omega
  obtain ⟨i0, hi, hz0, hz1, hz2⟩ := info_parts info_u8
  clear hc E hzb hA hS hxh hyh hv hN h td te hxy
  go_enter Tryz.func108, Tryz.ntmps108
  go_wp2_with fail
  refine (rCorner_any n g a _).mono ?_
  rintro e w1 ⟨rfl, b1⟩
  have HS := Lib.hid (Spt.below (show Spt (w.alloc (.cells #[.int .i64 n, .int .i64 g, .int .i64 a] 28)) w.heap.size n g a from heap_alloc_new w _) b1)
  have HB := Lib.hid (chain ((Below.refl w.heap.size w).alloc (Nat.le_refl _) (.cells #[.int .i64 n, .int .i64 g, .int .i64 a] 28)) b1)
  clear b1
  rw [HC.out]
  obtain ⟨s0, s1, s2⟩ := HS.out.cells
  go_wp2_with fail
  refine (rSize_any n _).mono ?_
  rintro e w2 ⟨rfl, rfl⟩
  rw [← HZ.out]
  go_wp2_with fail
  refine (rPlace_any n g a k _).mono ?_
  rintro e w3 ⟨rfl, b3⟩
  rw [HA.out, HSt.out, HE.out]
  have HS := Lib.hid (HS.out.below b3)
  have HB := Lib.hid (chain HB.out b3)
  clear b3
  clear s0 s1 s2
  obtain ⟨s0, s1, s2⟩ := HS.out.cells
  go_wp2_with fail
  refine (rFits_any n g a x y _).mono ?_
  rintro e w4 ⟨rfl, b4⟩
  rw [HV.out]
  have HS := Lib.hid (HS.out.below b4)
  have HB := Lib.hid (chain HB.out b4)
  clear b4
  clear s0 s1 s2
  go_wp2_with fail
  have hxx : x = xh := by rw [← HX.out]; unfold hX; rw [if_pos (by omega)]
  have hyy : y = yh := by rw [← HY.out]; unfold hX; rw [if_pos (by omega)]
  rw [← hxx, ← hyy] at PIX
  rw [← hxx] at bxh
  rw [← hyy] at byh
  clear hxx hyy
  go_loopw [23, 24] (fun v i wr => ∃ r : Nat, r ≤ 8 ∧ i = .int .i64 r ∧ OwnF w wr v (8 * r) (fetF f n g a k x y)) (fun _ i _ => 8 - (intOf i).toNat)
  case atStart => exact ⟨0, by omega, rfl, World.ownsRow_nil _ _ _ _, HB.out⟩
  case round =>
    clear HB HS
    obtain ⟨r, hr, rfl, hown⟩ := hrel
    by_cases hrn : r < 8
    · have OW := Lib.hid hown
      have dr : decide ((r : Int) < 8) = true := by simp; omega
      clear hown
      go_wp2_with fail
      go_loopw [23, 25] (fun v i wr => ∃ u : Nat, u ≤ 8 ∧ i = .int .i64 u ∧ OwnF w wr v (8 * r + u) (fetF f n g a k x y)) (fun _ i _ => 8 - (intOf i).toNat)
      case atStart => exact ⟨0, by omega, rfl, OW.out⟩
      case round =>
        clear OW
        obtain ⟨u, hu, rfl, hown⟩ := hrel
        by_cases hun : u < 8
        · obtain ⟨p, hp, hpN, hF⟩ := PIX.out r u hrn hun
          obtain ⟨Q, hQ⟩ : ∃ Q, ((r : Int) + y) * S = Q := ⟨_, rfl⟩
          rw [hQ] at hp
          have e1 : IntKind.i64.wrap ((r : Int) + y) = (r : Int) + y := IntWalk.i64_in _ (by omega)
          have e2 : IntKind.i64.wrap (((r : Int) + y) * S) = Q := by rw [hQ]; exact IntWalk.i64_in _ (by omega)
          have e3 : IntKind.i64.wrap (A + Q) = A + Q := IntWalk.i64_in _ (by omega)
          have e4 : IntKind.i64.wrap (A + Q + (u : Int)) = A + Q + (u : Int) := IntWalk.i64_in _ (by omega)
          have e5 : IntKind.i64.wrap (A + Q + (u : Int) + x) = (p : Int) := by rw [hp]; exact IntWalk.i64_in _ (by omega)
          have pb : (0 : Int) ≤ (p : Int) ∧ (p : Int) < (N : Int) := by omega
          have ck := (IN.out.below hown.2 hb) p hpN
          obtain ⟨V, hV⟩ : ∃ V, f p = V := ⟨_, rfl⟩
          rw [hV] at ck hF
          obtain ⟨cn, hcn⟩ : ∃ cn, cn = 8 * r + u := ⟨_, rfl⟩
          rw [← hcn] at hown hF
          have cb : cn ≤ 64 := by omega
          have OWN := Lib.hid hown.1
          have HB := Lib.hid hown.2
          have sz := hown.2.size
          have HC1 := Lib.hid hF
          have HCN := Lib.hid hcn
          clear hown hcn hF hp hQ hV
          go_wp2_with (at_builtin; refine wpList_append_own _ rfl _ _ 30 rfl w.heap.size 5 i0 (.int .u8 0) 1 1 Tryz.underlying30 hi hz0 hz1 hz2 rfl (by decide) _ _ _ rfl (OWN.out.alloc _) ⟨wr.heap.size, 0, none⟩ 1 1 [.int .u8 V] rfl rfl (cell_one_new _ _ _) (by simp [Value.oneCell']) (by unfold maxLen; omega) (by omega) (by simp; omega) ?_; intro v' w1 hown2 hgr hnil)
          have hB1 : Below w.heap.size w w1 := (HB.out.alloc sz (.cells #[.int .u8 V] 5)).grown hgr (by simp; omega) (fun q hq => (OWN.out.lt q hq).1)
          have hown3 : OwnF w w1 v' (cn + 1) (fetF f n g a k x y) := ⟨by rw [← range_snoc, HC1.out]; exact hown2, hB1⟩
          have OW3 := Lib.hid hown3
          clear hown2 hgr hnil hown3 hB1 OWN HB
          go_roundw
          case rel => exact ⟨u + 1, by omega, by go_num, by have h1 := OW3.out; rw [HCN.out] at h1; exact h1⟩
          case measure => simp [intOf]; omega
        · obtain rfl : u = 8 := by omega
          have OW := Lib.hid hown
          clear hown
          go_wp2_with fail
          go_roundw
          case rel => exact ⟨r + 1, by omega, by go_num, by have h1 := OW.out; rw [show 8 * (r + 1) = 8 * r + 8 by omega]; exact h1⟩
          case measure => simp [intOf]; omega
    · have hr8 : 8 * r = 64 := by omega
      rw [hr8] at hown
      have OW := Lib.hid hown
      have dr : decide ((r : Int) < 8) = false := by simp; omega
      clear hown hr8
      go_wp2_with fail
      go_ret2
      exact ⟨_, rfl, Res.of_own OW.out.1, OW.out.2⟩
set_option maxRecDepth 100000 in
set_option maxHeartbeats 2000000 in
theorem rfetch_hi (b o N c : Nat) (f : Nat → Int) (n g a k x y : Int) (w : World) (h : Ints w .u8 b o N f) (hb : b < w.heap.size) (hN : (N : Int) = zV n) (hk : 5 ≤ k ∧ k ≤ 6) (hv : vE n g a x y = 0) (hwx : (Lit.int .i64 x).wf = true) (hwy : (Lit.int .i64 y).wf = true) :
    Calls Tryz.prog 108 #[.slice (some ⟨b, o, none⟩) N c, .agg #[.int .i64 n, .int .i64 g, .int .i64 a], .int .i64 k, .int .i64 x, .int .i64 y] w fun e w' => ∃ v, e = .returned (.tuple #[v, .int .i64 0]) ∧ Res .u8 w.heap.size w' v 64 (fetF f n g a k x y) ∧ Below w.heap.size w w' := by
  obtain ⟨hc, hxy, _⟩ := vE_zero hv
  have E : plE n g a k = 0 := by unfold plE; rw [if_neg (by omega), if_neg (by omega)]
  have PIX := Lib.hid (fun r i hr hi => rpix f hv (show 1 ≤ k ∧ k ≤ 6 by omega) hN r i hr hi)
  have hzb : zV n ≤ 152064 := by unfold zV; split <;> (try split) <;> omega
  have hNb : N ≤ 152064 := by omega
  obtain ⟨A, hA⟩ : ∃ A, plA n g a k = A := ⟨_, rfl⟩
  obtain ⟨S, hS⟩ : ∃ S, plS n g a k = S := ⟨_, rfl⟩
  obtain ⟨xh, hxh⟩ : ∃ z, hX k x = z := ⟨_, rfl⟩
  obtain ⟨yh, hyh⟩ : ∃ z, hX k y = z := ⟨_, rfl⟩
  have bA : -1000000 ≤ A ∧ A ≤ 1000000 := by
    have h1 := PIX.out 0 0 (by omega) (by omega)
    have bX := cX_bd n g a hc
    have bY := cY_bd n g a hc
    have hn := (cE_cases n g a hc).1
    rw [← hA]
    unfold plA
    rw [if_pos E]
    rcases hn with rfl | rfl
    · have w1 : wV 0 = 176 := rfl
      have h1 : hV 0 = 144 := rfl
      rw [w1] at bX; rw [h1] at bY
      rw [w1, h1]
      split <;> omega
    · have w1 : wV 1 = 352 := rfl
      have h1 : hV 1 = 288 := rfl
      rw [w1] at bX; rw [h1] at bY
      rw [w1, h1]
      split <;> omega
  have td := tdiv2 x
  have te := tdiv2 y
  have bxh : -15 ≤ xh ∧ xh ≤ 15 := by rw [← hxh]; unfold hX; split <;> omega
  have byh : -15 ≤ yh ∧ yh ≤ 15 := by rw [← hyh]; unfold hX; split <;> omega
  rw [hA, hS, hxh, hyh] at PIX
  have HC := Lib.hid hc
  have HE := Lib.hid E
  have HA := Lib.hid hA
  have HSt := Lib.hid hS
  have HV := Lib.hid hv
  have HZ := Lib.hid hN
  have HX := Lib.hid hxh
  have HY := Lib.hid hyh
  have IN := Lib.hid h
  have t1 : (((N : Nat) : Int) != ((N : Nat) : Int)) = false := by simp
  have dk : decide (4 < k) = true := by simp; omega
  obtain ⟨i0, hi, hz0, hz1, hz2⟩ := info_parts info_u8
  clear hc E hzb hA hS hxh hyh hv hN h td te hxy
  go_enter Tryz.func108, Tryz.ntmps108
  go_wp2_with fail
  refine (rCorner_any n g a _).mono ?_
  rintro e w1 ⟨rfl, b1⟩
  have HS := Lib.hid (Spt.below (show Spt (w.alloc (.cells #[.int .i64 n, .int .i64 g, .int .i64 a] 28)) w.heap.size n g a from heap_alloc_new w _) b1)
  have HB := Lib.hid (chain ((Below.refl w.heap.size w).alloc (Nat.le_refl _) (.cells #[.int .i64 n, .int .i64 g, .int .i64 a] 28)) b1)
  clear b1
  rw [HC.out]
  obtain ⟨s0, s1, s2⟩ := HS.out.cells
  go_wp2_with fail
  refine (rSize_any n _).mono ?_
  rintro e w2 ⟨rfl, rfl⟩
  rw [← HZ.out]
  go_wp2_with fail
  refine (rPlace_any n g a k _).mono ?_
  rintro e w3 ⟨rfl, b3⟩
  rw [HA.out, HSt.out, HE.out]
  have HS := Lib.hid (HS.out.below b3)
  have HB := Lib.hid (chain HB.out b3)
  clear b3
  clear s0 s1 s2
  obtain ⟨s0, s1, s2⟩ := HS.out.cells
  go_wp2_with fail
  refine (rFits_any n g a x y _).mono ?_
  rintro e w4 ⟨rfl, b4⟩
  rw [HV.out]
  have HS := Lib.hid (HS.out.below b4)
  have HB := Lib.hid (chain HB.out b4)
  clear b4
  clear s0 s1 s2
  go_wp2_with fail
  refine (rHalf_all x hwx _).mono ?_
  rintro e w5 ⟨rfl, rfl⟩
  rw [show x.tdiv 2 = xh by rw [← HX.out]; unfold hX; rw [if_neg (by omega)]]
  go_wp2_with fail
  refine (rHalf_all y hwy _).mono ?_
  rintro e w5 ⟨rfl, rfl⟩
  rw [show y.tdiv 2 = yh by rw [← HY.out]; unfold hX; rw [if_neg (by omega)]]
  go_wp2_with fail
  go_loopw [23, 24] (fun v i wr => ∃ r : Nat, r ≤ 8 ∧ i = .int .i64 r ∧ OwnF w wr v (8 * r) (fetF f n g a k x y)) (fun _ i _ => 8 - (intOf i).toNat)
  case atStart => exact ⟨0, by omega, rfl, World.ownsRow_nil _ _ _ _, HB.out⟩
  case round =>
    clear HB HS
    obtain ⟨r, hr, rfl, hown⟩ := hrel
    by_cases hrn : r < 8
    · have OW := Lib.hid hown
      have dr : decide ((r : Int) < 8) = true := by simp; omega
      clear hown
      go_wp2_with fail
      go_loopw [23, 25] (fun v i wr => ∃ u : Nat, u ≤ 8 ∧ i = .int .i64 u ∧ OwnF w wr v (8 * r + u) (fetF f n g a k x y)) (fun _ i _ => 8 - (intOf i).toNat)
      case atStart => exact ⟨0, by omega, rfl, OW.out⟩
      case round =>
        clear OW
        obtain ⟨u, hu, rfl, hown⟩ := hrel
        by_cases hun : u < 8
        · obtain ⟨p, hp, hpN, hF⟩ := PIX.out r u hrn hun
          obtain ⟨Q, hQ⟩ : ∃ Q, ((r : Int) + yh) * S = Q := ⟨_, rfl⟩
          rw [hQ] at hp
          have e1 : IntKind.i64.wrap ((r : Int) + yh) = (r : Int) + yh := IntWalk.i64_in _ (by omega)
          have e2 : IntKind.i64.wrap (((r : Int) + yh) * S) = Q := by rw [hQ]; exact IntWalk.i64_in _ (by omega)
          have e3 : IntKind.i64.wrap (A + Q) = A + Q := IntWalk.i64_in _ (by omega)
          have e4 : IntKind.i64.wrap (A + Q + (u : Int)) = A + Q + (u : Int) := IntWalk.i64_in _ (by omega)
          have e5 : IntKind.i64.wrap (A + Q + (u : Int) + xh) = (p : Int) := by rw [hp]; exact IntWalk.i64_in _ (by omega)
          have pb : (0 : Int) ≤ (p : Int) ∧ (p : Int) < (N : Int) := by omega
          have ck := (IN.out.below hown.2 hb) p hpN
          obtain ⟨V, hV⟩ : ∃ V, f p = V := ⟨_, rfl⟩
          rw [hV] at ck hF
          obtain ⟨cn, hcn⟩ : ∃ cn, cn = 8 * r + u := ⟨_, rfl⟩
          rw [← hcn] at hown hF
          have cb : cn ≤ 64 := by omega
          have OWN := Lib.hid hown.1
          have HB := Lib.hid hown.2
          have sz := hown.2.size
          have HC1 := Lib.hid hF
          have HCN := Lib.hid hcn
          clear hown hcn hF hp hQ hV
          go_wp2_with (at_builtin; refine wpList_append_own _ rfl _ _ 30 rfl w.heap.size 5 i0 (.int .u8 0) 1 1 Tryz.underlying30 hi hz0 hz1 hz2 rfl (by decide) _ _ _ rfl (OWN.out.alloc _) ⟨wr.heap.size, 0, none⟩ 1 1 [.int .u8 V] rfl rfl (cell_one_new _ _ _) (by simp [Value.oneCell']) (by unfold maxLen; omega) (by omega) (by simp; omega) ?_; intro v' w1 hown2 hgr hnil)
          have hB1 : Below w.heap.size w w1 := (HB.out.alloc sz (.cells #[.int .u8 V] 5)).grown hgr (by simp; omega) (fun q hq => (OWN.out.lt q hq).1)
          have hown3 : OwnF w w1 v' (cn + 1) (fetF f n g a k x y) := ⟨by rw [← range_snoc, HC1.out]; exact hown2, hB1⟩
          have OW3 := Lib.hid hown3
          clear hown2 hgr hnil hown3 hB1 OWN HB
          go_roundw
          case rel => exact ⟨u + 1, by omega, by go_num, by have h1 := OW3.out; rw [HCN.out] at h1; exact h1⟩
          case measure => simp [intOf]; omega
        · obtain rfl : u = 8 := by omega
          have OW := Lib.hid hown
          clear hown
          go_wp2_with fail
          go_roundw
          case rel => exact ⟨r + 1, by omega, by go_num, by have h1 := OW.out; rw [show 8 * (r + 1) = 8 * r + 8 by omega]; exact h1⟩
          case measure => simp [intOf]; omega
    · have hr8 : 8 * r = 64 := by omega
      rw [hr8] at hown
      have OW := Lib.hid hown
      have dr : decide ((r : Int) < 8) = false := by simp; omega
      clear hown hr8
      go_wp2_with fail
      go_ret2
      exact ⟨_, rfl, Res.of_own OW.out.1, OW.out.2⟩
theorem rfetch_no1 (o : Option Addr) (N c : Nat) (n g a k x y : Int) (w : World) (hc : cE n g a ≠ 0) : Calls Tryz.prog 108 #[.slice o N c, .agg #[.int .i64 n, .int .i64 g, .int .i64 a], .int .i64 k, .int .i64 x, .int .i64 y] w fun e w' => e = .returned (.tuple #[.slice none 0 0, .int .i64 (fetE N n g a k x y)]) ∧ Below w.heap.size w w' := by
  have E : Hid (fetE N n g a k x y = cE n g a) := Lib.hid (by unfold fetE; rw [if_pos hc])
  have t0 : (cE n g a != 0) = true := by simpa using hc
  clear hc
  go_enter Tryz.func108, Tryz.ntmps108
  go_wp2_with fail
  refine (rCorner_any n g a _).mono ?_
  rintro e w1 ⟨rfl, b1⟩
  have HS := Lib.hid (Spt.below (show Spt (w.alloc (.cells #[.int .i64 n, .int .i64 g, .int .i64 a] 28)) w.heap.size n g a from heap_alloc_new w _) b1)
  have HB := Lib.hid (chain ((Below.refl w.heap.size w).alloc (Nat.le_refl _) (.cells #[.int .i64 n, .int .i64 g, .int .i64 a] 28)) b1)
  clear b1
  obtain ⟨s0, s1, s2⟩ := HS.out.cells
  go_wp2_with fail
  go_ret2
  exact ⟨by rw [E.out]; rfl, HB.out⟩
theorem rfetch_no2 (o : Option Addr) (N c : Nat) (n g a k x y : Int) (w : World) (hc : cE n g a = 0) (hN : (N : Int) ≠ zV n) : Calls Tryz.prog 108 #[.slice o N c, .agg #[.int .i64 n, .int .i64 g, .int .i64 a], .int .i64 k, .int .i64 x, .int .i64 y] w fun e w' => e = .returned (.tuple #[.slice none 0 0, .int .i64 (fetE N n g a k x y)]) ∧ Below w.heap.size w w' := by
  have E : Hid (fetE N n g a k x y = 2) := Lib.hid (by unfold fetE; rw [if_neg (by omega), if_pos hN])
  obtain ⟨Z, hZ⟩ : ∃ Z, zV n = Z := ⟨_, rfl⟩
  rw [hZ] at hN
  have t0 : ((N : Int) != Z) = true := by simpa using hN
  have HC := Lib.hid hc
  have HZ := Lib.hid hZ
  clear hc hN hZ
  go_enter Tryz.func108, Tryz.ntmps108
  go_wp2_with fail
  refine (rCorner_any n g a _).mono ?_
  rintro e w1 ⟨rfl, b1⟩
  have HS := Lib.hid (Spt.below (show Spt (w.alloc (.cells #[.int .i64 n, .int .i64 g, .int .i64 a] 28)) w.heap.size n g a from heap_alloc_new w _) b1)
  have HB := Lib.hid (chain ((Below.refl w.heap.size w).alloc (Nat.le_refl _) (.cells #[.int .i64 n, .int .i64 g, .int .i64 a] 28)) b1)
  clear b1
  rw [HC.out]
  obtain ⟨s0, s1, s2⟩ := HS.out.cells
  go_wp2_with fail
  refine (rSize_any n _).mono ?_
  rintro e w2 ⟨rfl, rfl⟩
  rw [HZ.out]
  go_wp2_with fail
  go_ret2
  exact ⟨by rw [E.out]; rfl, HB.out⟩
theorem rfetch_no3 (o : Option Addr) (N c : Nat) (n g a k x y : Int) (w : World) (hc : cE n g a = 0) (hN : (N : Int) = zV n) (hk : k < 1 ∨ 6 < k) : Calls Tryz.prog 108 #[.slice o N c, .agg #[.int .i64 n, .int .i64 g, .int .i64 a], .int .i64 k, .int .i64 x, .int .i64 y] w fun e w' => e = .returned (.tuple #[.slice none 0 0, .int .i64 (fetE N n g a k x y)]) ∧ Below w.heap.size w w' := by
  have E : Hid (fetE N n g a k x y = 3) := Lib.hid (by unfold fetE; rw [if_neg (by omega), if_neg (by omega), if_pos hk])
  have EP : Hid (plE n g a k = 3) := Lib.hid (by unfold plE; rw [if_neg (by omega), if_pos hk])
  have t1 : (((N : Nat) : Int) != ((N : Nat) : Int)) = false := by simp
  have HC := Lib.hid hc
  have HZ := Lib.hid hN
  clear hc hN hk
  go_enter Tryz.func108, Tryz.ntmps108
  go_wp2_with fail
  refine (rCorner_any n g a _).mono ?_
  rintro e w1 ⟨rfl, b1⟩
  have HS := Lib.hid (Spt.below (show Spt (w.alloc (.cells #[.int .i64 n, .int .i64 g, .int .i64 a] 28)) w.heap.size n g a from heap_alloc_new w _) b1)
  have HB := Lib.hid (chain ((Below.refl w.heap.size w).alloc (Nat.le_refl _) (.cells #[.int .i64 n, .int .i64 g, .int .i64 a] 28)) b1)
  clear b1
  rw [HC.out]
  obtain ⟨s0, s1, s2⟩ := HS.out.cells
  go_wp2_with fail
  refine (rSize_any n _).mono ?_
  rintro e w2 ⟨rfl, rfl⟩
  rw [← HZ.out]
  go_wp2_with fail
  refine (rPlace_any n g a k _).mono ?_
  rintro e w3 ⟨rfl, b3⟩
  rw [EP.out]
  have HS := Lib.hid (HS.out.below b3)
  have HB := Lib.hid (chain HB.out b3)
  clear b3
  go_wp2_with fail
  go_ret2
  exact ⟨by rw [E.out]; rfl, HB.out⟩
theorem rfetch_no4 (o : Option Addr) (N c : Nat) (n g a k x y : Int) (w : World) (hc : cE n g a = 0) (hN : (N : Int) = zV n) (hk : 1 ≤ k ∧ k ≤ 6) (hv : vE n g a x y ≠ 0) : Calls Tryz.prog 108 #[.slice o N c, .agg #[.int .i64 n, .int .i64 g, .int .i64 a], .int .i64 k, .int .i64 x, .int .i64 y] w fun e w' => e = .returned (.tuple #[.slice none 0 0, .int .i64 (fetE N n g a k x y)]) ∧ Below w.heap.size w w' := by
  have E : Hid (fetE N n g a k x y = vE n g a x y) := Lib.hid (by unfold fetE; rw [if_neg (by omega), if_neg (by omega), if_neg (by omega)])
  have EP : Hid (plE n g a k = 0) := Lib.hid (by unfold plE; rw [if_neg (by omega), if_neg (by omega)])
  have t1 : (((N : Nat) : Int) != ((N : Nat) : Int)) = false := by simp
  have t2 : (vE n g a x y != 0) = true := by simpa using hv
  have HC := Lib.hid hc
  have HZ := Lib.hid hN
  clear hc hN hk hv
  go_enter Tryz.func108, Tryz.ntmps108
  go_wp2_with fail
  refine (rCorner_any n g a _).mono ?_
  rintro e w1 ⟨rfl, b1⟩
  have HS := Lib.hid (Spt.below (show Spt (w.alloc (.cells #[.int .i64 n, .int .i64 g, .int .i64 a] 28)) w.heap.size n g a from heap_alloc_new w _) b1)
  have HB := Lib.hid (chain ((Below.refl w.heap.size w).alloc (Nat.le_refl _) (.cells #[.int .i64 n, .int .i64 g, .int .i64 a] 28)) b1)
  clear b1
  rw [HC.out]
  obtain ⟨s0, s1, s2⟩ := HS.out.cells
  go_wp2_with fail
  refine (rSize_any n _).mono ?_
  rintro e w2 ⟨rfl, rfl⟩
  rw [← HZ.out]
  go_wp2_with fail
  refine (rPlace_any n g a k _).mono ?_
  rintro e w3 ⟨rfl, b3⟩
  rw [EP.out]
  have HS := Lib.hid (HS.out.below b3)
  have HB := Lib.hid (chain HB.out b3)
  clear b3
  clear s0 s1 s2
  obtain ⟨s0, s1, s2⟩ := HS.out.cells
  go_wp2_with fail
  refine (rFits_any n g a x y _).mono ?_
  rintro e w4 ⟨rfl, b4⟩
  have HS := Lib.hid (HS.out.below b4)
  have HB := Lib.hid (chain HB.out b4)
  clear b4
  go_wp2_with fail
  go_ret2
  exact ⟨by rw [E.out]; rfl, HB.out⟩
theorem rFetch_any (v : Value) (N : Nat) (f : Nat → Int) (n g a k x y : Int) (w : World) (hs : Sl .u8 w v N f) (hx : (Lit.int .i64 x).wf = true) (hy : (Lit.int .i64 y).wf = true) :
    Calls Tryz.prog 108 #[v, .agg #[.int .i64 n, .int .i64 g, .int .i64 a], .int .i64 k, .int .i64 x, .int .i64 y] w fun e w' => ∃ v', e = .returned (.tuple #[v', .int .i64 (fetE N n g a k x y)]) ∧ Res .u8 w.heap.size w' v' (fetN N n g a k x y) (fetF f n g a k x y) ∧ Below w.heap.size w w' := by
  have no : ∀ e w', fetE N n g a k x y ≠ 0 → (e = Ending.returned (.tuple #[.slice none 0 0, .int .i64 (fetE N n g a k x y)]) ∧ Below w.heap.size w w') →
      ∃ v', e = .returned (.tuple #[v', .int .i64 (fetE N n g a k x y)]) ∧ Res .u8 w.heap.size w' v' (fetN N n g a k x y) (fetF f n g a k x y) ∧ Below w.heap.size w w' := fun e w' h ⟨h1, h2⟩ =>
    ⟨_, h1, .inl ⟨by unfold fetN; rw [if_neg h], rfl⟩, h2⟩
  obtain ⟨o, c, rfl, h1, h2, h3⟩ := hs
  by_cases hc : cE n g a = 0
  · by_cases hN : (N : Int) = zV n
    · by_cases hk : k < 1 ∨ 6 < k
      · exact (rfetch_no3 o N c n g a k x y w hc hN hk).mono (fun e w' h => no e w' (fun h0 => by have := (fetE_zero h0).2.2.1; omega) h)
      · by_cases hv : vE n g a x y = 0
        · have e0 : fetE N n g a k x y = 0 := by unfold fetE; rw [if_neg (by omega), if_neg (by omega), if_neg (by omega), hv]
          have eN : fetN N n g a k x y = 64 := by unfold fetN; rw [if_pos e0]
          have hp := zV_pos (cE_cases n g a hc).1
          rcases h3 with ⟨h0, _⟩ | ⟨b, oo, rfl, hb, hI⟩
          · omega
          · rw [e0, eN]
            by_cases hk4 : k ≤ 4
            · exact rfetch_lo b oo N c f n g a k x y w hI hb hN (by omega) hv hx hy
            · exact rfetch_hi b oo N c f n g a k x y w hI hb hN (by omega) hv hx hy
        · exact (rfetch_no4 o N c n g a k x y w hc hN (by omega) hv).mono (fun e w' h => no e w' (fun h0 => hv (fetE_zero h0).2.2.2) h)
    · exact (rfetch_no2 o N c n g a k x y w hc hN).mono (fun e w' h => no e w' (fun h0 => hN (fetE_zero h0).2.1) h)
  · exact (rfetch_no1 o N c n g a k x y w hc).mono (fun e w' h => no e w' (fun h0 => hc (fetE_zero h0).1) h)
end Rf
end Go.Proofs.YtbmglemjfodfhaaGreat
