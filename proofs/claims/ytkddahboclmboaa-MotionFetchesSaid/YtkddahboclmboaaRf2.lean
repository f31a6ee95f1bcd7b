/- The document's motion: Fits, Fetch. -/
import Derived.Test.YtkddahboclmboaaRf1
import Derived.Test.YtkddahboclmboaaMo12
namespace Go.Proofs.Ytkddahboclmboaa
open Go.RowKit
namespace Rf
open Fr Mo

def prt (x : Int) : Bool := decide (-15 ≤ x ∧ x ≤ 15)
theorem rpart_any (x : Int) (w : World) : Calls Try.prog 54 #[.int .i64 x] w fun e w' => e = .returned (.bool (prt x)) ∧ w = w' := by
  by_cases h1 : -15 ≤ x
  · have d1 : decide (-15 ≤ x) = true := by simp [h1]
    by_cases h2 : x ≤ 15
    · have E : Hid (prt x = true) := Lib.hid (by unfold prt; simp; omega)
      go_enter Try.func54, Try.ntmps54
      go_wp2
      go_ret
      exact ⟨by rw [E.out]; rfl, rfl⟩
    · have E : Hid (prt x = false) := Lib.hid (by unfold prt; simp; omega)
      go_enter Try.func54, Try.ntmps54
      go_wp2
      go_ret
      exact ⟨by rw [E.out]; rfl, rfl⟩
  · have E : Hid (prt x = false) := Lib.hid (by unfold prt; simp; omega)
    have d1 : decide (-15 ≤ x) = false := by simp [h1]
    go_enter Try.func54, Try.ntmps54
    go_wp2
    go_ret
    exact ⟨by rw [E.out]; rfl, rfl⟩

theorem rFits_no (n g a x y : Int) (w : World) (hc : cE n g a ≠ 0) : Calls Try.prog 21 #[.agg #[.int .i64 n, .int .i64 g, .int .i64 a], .int .i64 x, .int .i64 y] w fun e w' => e = .returned (.int .i64 (vE n g a x y)) ∧ Below w.heap.size w w' := by
  have E : Hid (vE n g a x y = cE n g a) := Lib.hid (by unfold vE; rw [if_pos hc])
  have t0 : (cE n g a != 0) = true := by simpa using hc
  clear hc
  go_enter Try.func21, Try.ntmps21
  go_wp2_with fail
  refine (rCorner_any n g a _).mono ?_
  rintro e w1 ⟨rfl, b1⟩
  have HS := Lib.hid (Spt.below (show Spt (w.alloc (.cells #[.int .i64 n, .int .i64 g, .int .i64 a] 23)) w.heap.size n g a from heap_alloc_new w _) b1)
  have HB := Lib.hid (chain ((Below.refl w.heap.size w).alloc (Nat.le_refl _) (.cells #[.int .i64 n, .int .i64 g, .int .i64 a] 23)) b1)
  clear b1
  go_wp2_with fail
  go_ret
  exact ⟨by rw [E.out]; rfl, HB.out⟩
theorem rFits_far (n g a x y : Int) (w : World) (hc : cE n g a = 0) (hf : x < -15 ∨ 15 < x ∨ y < -15 ∨ 15 < y) : Calls Try.prog 21 #[.agg #[.int .i64 n, .int .i64 g, .int .i64 a], .int .i64 x, .int .i64 y] w fun e w' => e = .returned (.int .i64 (vE n g a x y)) ∧ Below w.heap.size w w' := by
  have E : Hid (vE n g a x y = 3) := Lib.hid (by unfold vE; rw [if_neg (by omega), if_pos hf])
  have HC := Lib.hid hc
  clear hc
  by_cases hp : prt x = true
  · have hq : prt y = false := by
      unfold prt at hp ⊢
      rw [decide_eq_true_eq] at hp
      rw [decide_eq_false_iff_not]; omega
    have HP := Lib.hid hp
    have HQ := Lib.hid hq
    clear hp hq hf
    go_enter Try.func21, Try.ntmps21
    go_wp2_with fail
    refine (rCorner_any n g a _).mono ?_
    rintro e w1 ⟨rfl, b1⟩
    have HS := Lib.hid (Spt.below (show Spt (w.alloc (.cells #[.int .i64 n, .int .i64 g, .int .i64 a] 23)) w.heap.size n g a from heap_alloc_new w _) b1)
    have HB := Lib.hid (chain ((Below.refl w.heap.size w).alloc (Nat.le_refl _) (.cells #[.int .i64 n, .int .i64 g, .int .i64 a] 23)) b1)
    clear b1
    rw [HC.out]
    go_wp2_with fail
    refine (rpart_any x _).mono ?_
    rintro e w2 ⟨rfl, rfl⟩
    rw [HP.out]
    go_wp2_with fail
    refine (rpart_any y _).mono ?_
    rintro e w2 ⟨rfl, rfl⟩
    rw [HQ.out]
    go_wp2_with fail
    go_ret
    exact ⟨by rw [E.out]; rfl, HB.out⟩
  · have HP : Hid (prt x = false) := Lib.hid (by simpa using hp)
    clear hp hf
    go_enter Try.func21, Try.ntmps21
    go_wp2_with fail
    refine (rCorner_any n g a _).mono ?_
    rintro e w1 ⟨rfl, b1⟩
    have HS := Lib.hid (Spt.below (show Spt (w.alloc (.cells #[.int .i64 n, .int .i64 g, .int .i64 a] 23)) w.heap.size n g a from heap_alloc_new w _) b1)
    have HB := Lib.hid (chain ((Below.refl w.heap.size w).alloc (Nat.le_refl _) (.cells #[.int .i64 n, .int .i64 g, .int .i64 a] 23)) b1)
    clear b1
    rw [HC.out]
    go_wp2_with fail
    refine (rpart_any x _).mono ?_
    rintro e w2 ⟨rfl, rfl⟩
    rw [HP.out]
    go_wp2_with fail
    go_ret
    exact ⟨by rw [E.out]; rfl, HB.out⟩
theorem rFits_near (n g a x y : Int) (w : World) (hc : cE n g a = 0) (hf : (-15 ≤ x ∧ x ≤ 15) ∧ -15 ≤ y ∧ y ≤ 15) : Calls Try.prog 21 #[.agg #[.int .i64 n, .int .i64 g, .int .i64 a], .int .i64 x, .int .i64 y] w fun e w' => e = .returned (.int .i64 (vE n g a x y)) ∧ Below w.heap.size w w' := by
  have HP : Hid (prt x = true) := Lib.hid (by unfold prt; rw [decide_eq_true_eq]; omega)
  have HQ : Hid (prt y = true) := Lib.hid (by unfold prt; rw [decide_eq_true_eq]; omega)
  have bX := cX_bd n g a hc
  have bY := cY_bd n g a hc
  have bW := wh_bd n
  have E0 : vE n g a x y = if cX n g a + x < 0 ∨ wV n < cX n g a + x + 16 ∨ cY n g a + y < 0 ∨ hV n < cY n g a + y + 16 then 12 else 0 := by unfold vE; rw [if_neg (by omega), if_neg (by omega)]
  have HC := Lib.hid hc
  obtain ⟨X, hX⟩ : ∃ X, cX n g a = X := ⟨_, rfl⟩
  obtain ⟨Y, hY⟩ : ∃ Y, cY n g a = Y := ⟨_, rfl⟩
  obtain ⟨W, hW⟩ : ∃ W, wV n = W := ⟨_, rfl⟩
  obtain ⟨H, hH⟩ : ∃ H, hV n = H := ⟨_, rfl⟩
  rw [hX, hY, hW, hH] at E0
  rw [hX, hW] at bX
  rw [hY, hH] at bY
  rw [hW, hH] at bW
  have HX := Lib.hid hX
  have HY := Lib.hid hY
  have HW := Lib.hid hW
  have HH := Lib.hid hH
  have HE0 := Lib.hid E0
  clear hX hY hW hH E0 hc
  have bX' : 0 ≤ X ∧ X ≤ 400 := by omega
  have bY' : 0 ≤ Y ∧ Y ≤ 400 := by omega
  have bW' : 0 ≤ W ∧ W ≤ 352 ∧ 0 ≤ H ∧ H ≤ 288 := bW
  clear bX bY bW
  by_cases h0 : X + x < 0
  · have d0 : decide (X + x < 0) = true := by simp [h0]
    have E : Hid (vE n g a x y = 12) := Lib.hid (by rw [HE0.out, if_pos (by omega)])
    go_enter Try.func21, Try.ntmps21
    go_wp2_with fail
    refine (rCorner_any n g a _).mono ?_
    rintro e w1 ⟨rfl, b1⟩
    have HS := Lib.hid (Spt.below (show Spt (w.alloc (.cells #[.int .i64 n, .int .i64 g, .int .i64 a] 23)) w.heap.size n g a from heap_alloc_new w _) b1)
    have HB := Lib.hid (chain ((Below.refl w.heap.size w).alloc (Nat.le_refl _) (.cells #[.int .i64 n, .int .i64 g, .int .i64 a] 23)) b1)
    clear b1
    rw [HC.out, HX.out, HY.out]
    go_wp2_with fail
    refine (rpart_any x _).mono ?_
    rintro e w2 ⟨rfl, rfl⟩
    rw [HP.out]
    go_wp2_with fail
    refine (rpart_any y _).mono ?_
    rintro e w2 ⟨rfl, rfl⟩
    rw [HQ.out]
    obtain ⟨s0, s1, s2⟩ := HS.out.cells
    go_wp2_with fail
    refine (rSize_any n _).mono ?_
    rintro e w2 ⟨rfl, rfl⟩
    rw [HW.out, HH.out]
    go_wp2_with fail
    go_ret
    exact ⟨by rw [E.out]; rfl, HB.out⟩
  · have d0 : decide (X + x < 0) = false := by simp [h0]
    by_cases h1 : W < X + x + 16
    · have d1 : decide (W < X + x + 16) = true := by simp [h1]
      have E : Hid (vE n g a x y = 12) := Lib.hid (by rw [HE0.out, if_pos (by omega)])
      go_enter Try.func21, Try.ntmps21
      go_wp2_with fail
      refine (rCorner_any n g a _).mono ?_
      rintro e w1 ⟨rfl, b1⟩
      have HS := Lib.hid (Spt.below (show Spt (w.alloc (.cells #[.int .i64 n, .int .i64 g, .int .i64 a] 23)) w.heap.size n g a from heap_alloc_new w _) b1)
      have HB := Lib.hid (chain ((Below.refl w.heap.size w).alloc (Nat.le_refl _) (.cells #[.int .i64 n, .int .i64 g, .int .i64 a] 23)) b1)
      clear b1
      rw [HC.out, HX.out, HY.out]
      go_wp2_with fail
      refine (rpart_any x _).mono ?_
      rintro e w2 ⟨rfl, rfl⟩
      rw [HP.out]
      go_wp2_with fail
      refine (rpart_any y _).mono ?_
      rintro e w2 ⟨rfl, rfl⟩
      rw [HQ.out]
      obtain ⟨s0, s1, s2⟩ := HS.out.cells
      go_wp2_with fail
      refine (rSize_any n _).mono ?_
      rintro e w2 ⟨rfl, rfl⟩
      rw [HW.out, HH.out]
      go_wp2_with fail
      go_ret
      exact ⟨by rw [E.out]; rfl, HB.out⟩
    · have d1 : decide (W < X + x + 16) = false := by simp [h1]
      by_cases h2 : Y + y < 0
      · have d2 : decide (Y + y < 0) = true := by simp [h2]
        have E : Hid (vE n g a x y = 12) := Lib.hid (by rw [HE0.out, if_pos (by omega)])
        go_enter Try.func21, Try.ntmps21
        go_wp2_with fail
        refine (rCorner_any n g a _).mono ?_
        rintro e w1 ⟨rfl, b1⟩
        have HS := Lib.hid (Spt.below (show Spt (w.alloc (.cells #[.int .i64 n, .int .i64 g, .int .i64 a] 23)) w.heap.size n g a from heap_alloc_new w _) b1)
        have HB := Lib.hid (chain ((Below.refl w.heap.size w).alloc (Nat.le_refl _) (.cells #[.int .i64 n, .int .i64 g, .int .i64 a] 23)) b1)
        clear b1
        rw [HC.out, HX.out, HY.out]
        go_wp2_with fail
        refine (rpart_any x _).mono ?_
        rintro e w2 ⟨rfl, rfl⟩
        rw [HP.out]
        go_wp2_with fail
        refine (rpart_any y _).mono ?_
        rintro e w2 ⟨rfl, rfl⟩
        rw [HQ.out]
        obtain ⟨s0, s1, s2⟩ := HS.out.cells
        go_wp2_with fail
        refine (rSize_any n _).mono ?_
        rintro e w2 ⟨rfl, rfl⟩
        rw [HW.out, HH.out]
        go_wp2_with fail
        go_ret
        exact ⟨by rw [E.out]; rfl, HB.out⟩
      · have d2 : decide (Y + y < 0) = false := by simp [h2]
        by_cases h3 : H < Y + y + 16
        · have d3 : decide (H < Y + y + 16) = true := by simp [h3]
          have E : Hid (vE n g a x y = 12) := Lib.hid (by rw [HE0.out, if_pos (by omega)])
          go_enter Try.func21, Try.ntmps21
          go_wp2_with fail
          refine (rCorner_any n g a _).mono ?_
          rintro e w1 ⟨rfl, b1⟩
          have HS := Lib.hid (Spt.below (show Spt (w.alloc (.cells #[.int .i64 n, .int .i64 g, .int .i64 a] 23)) w.heap.size n g a from heap_alloc_new w _) b1)
          have HB := Lib.hid (chain ((Below.refl w.heap.size w).alloc (Nat.le_refl _) (.cells #[.int .i64 n, .int .i64 g, .int .i64 a] 23)) b1)
          clear b1
          rw [HC.out, HX.out, HY.out]
          go_wp2_with fail
          refine (rpart_any x _).mono ?_
          rintro e w2 ⟨rfl, rfl⟩
          rw [HP.out]
          go_wp2_with fail
          refine (rpart_any y _).mono ?_
          rintro e w2 ⟨rfl, rfl⟩
          rw [HQ.out]
          obtain ⟨s0, s1, s2⟩ := HS.out.cells
          go_wp2_with fail
          refine (rSize_any n _).mono ?_
          rintro e w2 ⟨rfl, rfl⟩
          rw [HW.out, HH.out]
          go_wp2_with fail
          go_ret
          exact ⟨by rw [E.out]; rfl, HB.out⟩
        · have d3 : decide (H < Y + y + 16) = false := by simp [h3]
          have E : Hid (vE n g a x y = 0) := Lib.hid (by rw [HE0.out, if_neg (by omega)])
          go_enter Try.func21, Try.ntmps21
          go_wp2_with fail
          refine (rCorner_any n g a _).mono ?_
          rintro e w1 ⟨rfl, b1⟩
          have HS := Lib.hid (Spt.below (show Spt (w.alloc (.cells #[.int .i64 n, .int .i64 g, .int .i64 a] 23)) w.heap.size n g a from heap_alloc_new w _) b1)
          have HB := Lib.hid (chain ((Below.refl w.heap.size w).alloc (Nat.le_refl _) (.cells #[.int .i64 n, .int .i64 g, .int .i64 a] 23)) b1)
          clear b1
          rw [HC.out, HX.out, HY.out]
          go_wp2_with fail
          refine (rpart_any x _).mono ?_
          rintro e w2 ⟨rfl, rfl⟩
          rw [HP.out]
          go_wp2_with fail
          refine (rpart_any y _).mono ?_
          rintro e w2 ⟨rfl, rfl⟩
          rw [HQ.out]
          obtain ⟨s0, s1, s2⟩ := HS.out.cells
          go_wp2_with fail
          refine (rSize_any n _).mono ?_
          rintro e w2 ⟨rfl, rfl⟩
          rw [HW.out, HH.out]
          go_wp2_with fail
          go_ret
          exact ⟨by rw [E.out]; rfl, HB.out⟩
theorem rFits_any (n g a x y : Int) (w : World) : Calls Try.prog 21 #[.agg #[.int .i64 n, .int .i64 g, .int .i64 a], .int .i64 x, .int .i64 y] w fun e w' => e = .returned (.int .i64 (vE n g a x y)) ∧ Below w.heap.size w w' := by
  by_cases hc : cE n g a = 0
  · by_cases hf : x < -15 ∨ 15 < x ∨ y < -15 ∨ 15 < y
    · exact rFits_far n g a x y w hc hf
    · exact rFits_near n g a x y w hc (by omega)
  · exact rFits_no n g a x y w hc
end Rf
end Go.Proofs.Ytkddahboclmboaa
