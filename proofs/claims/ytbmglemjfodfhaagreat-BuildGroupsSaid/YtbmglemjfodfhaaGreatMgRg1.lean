/- Corner: what it tells, bounds. | The document's frame: Size, Groups, Next, Corner, Place. -/
import Derived.Test.YtbmglemjfodfhaaGreatMgFr3
set_option linter.unusedVariables false
set_option linter.unusedSimpArgs false
namespace Go.Proofs.YtbmglemjfodfhaaGreat
open Go.RowKit
namespace Mo
open Fr
theorem cE_cases (n g a : Int) (h : cE n g a = 0) : (n = 0 ∨ n = 1) ∧ inG n g = true ∧ 1 ≤ a ∧ a ≤ 33 := by
  unfold cE at h
  by_cases h1 : n = 0 ∨ n = 1
  · rw [if_pos h1] at h
    by_cases h2 : inG n g = true
    · rw [if_pos h2] at h
      by_cases h3 : a < 1 ∨ 33 < a
      · rw [if_pos h3] at h; omega
      · exact ⟨h1, h2, by omega, by omega⟩
    · rw [if_neg h2] at h; omega
  · rw [if_neg h1] at h; omega
theorem cX_bd (n g a : Int) (h : cE n g a = 0) : 0 ≤ cX n g a ∧ cX n g a + 16 ≤ wV n := by
  obtain ⟨h1, h2, h3, h4⟩ := cE_cases n g a h
  unfold cX
  rw [if_pos h]
  rcases h1 with rfl | rfl
  · rw [if_neg (by decide), show wV 0 = 176 from rfl]; omega
  · have := inG_bd1 h2
    rw [if_pos rfl, show wV 1 = 352 from rfl]; omega
theorem cY_bd (n g a : Int) (h : cE n g a = 0) : 0 ≤ cY n g a ∧ cY n g a + 16 ≤ hV n := by
  obtain ⟨h1, h2, h3, h4⟩ := cE_cases n g a h
  unfold cY
  rw [if_pos h]
  rcases h1 with rfl | rfl
  · rw [show hV 0 = 144 from rfl, inG_0] at *
    simp at h2
    omega
  · have := inG_bd1 h2
    rw [show hV 1 = 288 from rfl]; omega
theorem wh_bd (n : Int) : 0 ≤ wV n ∧ wV n ≤ 352 ∧ 0 ≤ hV n ∧ hV n ≤ 288 := by unfold wV hV; refine ⟨?_, ?_, ?_, ?_⟩ <;> split <;> (try split) <;> omega
end Mo
end Go.Proofs.YtbmglemjfodfhaaGreat
namespace Go.Proofs.YtbmglemjfodfhaaGreat
open Go.RowKit
namespace Rf
open Fr Mo
def nxE (n g : Int) : Int := if g = 0 ∨ inG n g = true then 0 else 8
theorem rSize_any (n : Int) (w : World) : Calls Tryz.prog 77 #[.int .i64 n] w fun e w' => e = .returned (.tuple #[.int .i64 (wV n), .int .i64 (hV n), .int .i64 (zV n), .int .i64 (fE n)]) ∧ w = w' := by
  by_cases h : n = 0 ∨ n = 1
  · rcases h with rfl | rfl
    · go_enter Tryz.func77, Tryz.ntmps77
      go_wp2
      refine bodyPost_ret (results_tmp4 rfl _ _ _) rfl ?_
      exact ⟨rfl, rfl⟩
    · go_enter Tryz.func77, Tryz.ntmps77
      go_wp2
      refine bodyPost_ret (results_tmp4 rfl _ _ _) rfl ?_
      exact ⟨rfl, rfl⟩
  · have E2 : Hid (wV n = 0 ∧ hV n = 0 ∧ zV n = 0 ∧ fE n = 3) := Lib.hid (by unfold wV hV zV fE; rw [if_neg (by omega), if_neg (by omega), if_neg (by omega), if_neg (by omega), if_neg (by omega), if_neg (by omega), if_neg h]; exact ⟨rfl, rfl, rfl, rfl⟩)
    obtain ⟨k0, k1⟩ := eq_tests n h
    clear h
    go_enter Tryz.func77, Tryz.ntmps77
    go_wp2
    refine bodyPost_ret (results_tmp4 rfl _ _ _) rfl ?_
    exact ⟨by rw [E2.out.1, E2.out.2.1, E2.out.2.2.1, E2.out.2.2.2]; rfl, rfl⟩
theorem rGroups_0 (w : World) : Calls Tryz.prog 144 #[.int .i64 0] w fun e w' => ∃ gg, e = .returned (.tuple #[.slice (some ⟨gg, 0, none⟩) 3 3, .int .i64 0]) ∧ w.heap.size ≤ gg ∧ gg < w'.heap.size ∧ Arr w' .i64 gg 3 (grF 0) ∧ Below w.heap.size w w' := by
  go_enter Tryz.func144, Tryz.ntmps144
  go_wp2_with fail
  go_ret2
  refine ⟨w.heap.size, rfl, Nat.le_refl _, by simp, Arr.new w .i64 #[.int .i64 1, .int .i64 3, .int .i64 5] 3 3 (grF 0) (fun i hi => ?_), (Below.refl _ _).alloc (Nat.le_refl _) _⟩
  rcases (by omega : i = 0 ∨ i = 1 ∨ i = 2) with rfl | rfl | rfl <;> rfl
theorem rNext_0 (g : Int) (w : World) : Calls Tryz.prog 102 #[.int .i64 0, .int .i64 g] w fun e w' => (∃ x, e = .returned (.tuple #[.int .i64 x, .int .i64 (nxE 0 g)])) ∧ Below w.heap.size w w' := by
  go_enter Tryz.func102, Tryz.ntmps102
  go_wp2_with fail
  refine (rGroups_0 _).mono ?_
  rintro e w1 ⟨gg, rfl, h1, h2, hA, b1⟩
  have HA := Lib.hid hA
  have HB := Lib.hid b1
  clear hA b1 h1
  by_cases h0 : g = 0
  · have k0 : (g == 0) = true := by simp [h0]
    have E : Hid (nxE 0 g = 0) := Lib.hid (by unfold nxE; rw [if_pos (.inl h0)])
    clear h0
    go_wp2_with fail
    go_ret2
    exact ⟨⟨_, by rw [E.out]; rfl⟩, HB.out⟩
  · have k0 : (g == 0) = false := by simp [h0]
    have H0 := Lib.hid h0
    clear h0
    go_wp2_with fail
    go_loopw [8] (fun i wr => ∃ k : Nat, k ≤ 3 ∧ i = .int .i64 k ∧ (Hid (∀ j, j < k → g ≠ grF 0 j)) ∧ wr = w1) (fun i _ => 3 - (intOf i).toNat)
    case atStart => exact ⟨0, by omega, rfl, Lib.hid (fun j hj => by omega), rfl⟩
    case round =>
      obtain ⟨k, hk, rfl, hN, rfl⟩ := hrel
      by_cases hkM : k < 3
      · have ck := (HA.out k hkM).1
        have kb : (0 : Int) ≤ (k : Int) ∧ (k : Int) < 3 := by omega
        have dk : decide ((k : Int) < 3) = true := by simp; omega
        obtain ⟨A, hAe⟩ : ∃ A, grF 0 k = A := ⟨_, rfl⟩
        rw [hAe] at ck
        have HE := Lib.hid hAe
        clear hAe
        by_cases hq : A = g
        · have E : Hid (nxE 0 g = 0) := Lib.hid (by unfold nxE; rw [if_pos (.inr (by unfold inG; rw [decide_eq_true_eq]; exact ixF_yes (hq.symm.trans HE.out.symm) _ hkM))])
          have t1 : (A == g) = true := by simp [hq]
          clear hq
          by_cases hl : k = 2
          · have t2 : ((k : Int) == 2) = true := by simp [hl]
            clear hl
            go_wp2_with fail
            go_ret2
            exact ⟨⟨_, by rw [E.out]; rfl⟩, HB.out⟩
          · have t2 : ((k : Int) == 2) = false := by simp; omega
            have ck2 := (HA.out (k + 1) (by omega)).1
            have kb2 : (k : Int) + 1 < 3 := by omega
            clear hl
            go_wp2_with fail
            go_ret2
            exact ⟨⟨_, by rw [E.out]; rfl⟩, HB.out⟩
        · have t1 : (A == g) = false := by simp [hq]
          have HQ := Lib.hid hq
          clear hq
          go_wp2_with fail
          go_roundw
          case rel =>
            refine ⟨k + 1, by omega, by go_num, Lib.hid (fun j hj => ?_), by trivial⟩
            by_cases e : j = k
            · subst e; rw [HE.out]; exact fun h => HQ.out h.symm
            · exact hN.out j (by omega)
          case measure => simp [intOf]; omega
      · have dk : decide ((k : Int) < 3) = false := by simp; omega
        have E : Hid (nxE 0 g = 8) := Lib.hid (by
          unfold nxE
          rw [if_neg]
          rintro (h | h)
          · exact H0.out h
          · unfold inG at h
            rw [decide_eq_true_eq, ixF_no (f := grF 0) (x := g) (grN 0) (fun j hj => hN.out j (Nat.lt_of_lt_of_le hj (by show 3 ≤ k; omega)))] at h
            omega)
        have hk' : (3 : Int) ≤ (k : Int) := by omega
        go_wp2_with fail
        go_ret2
        exact ⟨⟨_, by rw [E.out]; rfl⟩, HB.out⟩
theorem rCorner_0 (g a : Int) (w : World) : Calls Tryz.prog 59 #[.int .i64 0, .int .i64 g, .int .i64 a] w fun e w' => e = .returned (.tuple #[.int .i64 (cX 0 g a), .int .i64 (cY 0 g a), .int .i64 (cE 0 g a)]) ∧ Below w.heap.size w w' := by
  by_cases hg : inG 0 g = true
  · have gb := inG_bd0 hg
    have NX : Hid (nxE 0 g = 0) := Lib.hid (by unfold nxE; rw [if_pos (.inr hg)])
    have g0 : (g == 0) = false := by simp; omega
    by_cases ha : a < 1 ∨ 33 < a
    · have E : Hid (cE 0 g a = 13) := Lib.hid (by unfold cE; rw [if_pos (by decide), if_pos hg, if_pos ha])
      have E2 : Hid (cX 0 g a = 0 ∧ cY 0 g a = 0) := Lib.hid (by unfold cX cY; rw [E.out]; exact ⟨rfl, rfl⟩)
      clear hg
      rcases ha with ha | ha
      · go_enter Tryz.func59, Tryz.ntmps59
        go_wp2_with fail
        refine (rNext_0 g _).mono ?_
        rintro e w1 ⟨⟨x, rfl⟩, b1⟩
        rw [NX.out]
        go_wp2_with fail
        go_ret3
        exact ⟨by rw [E.out, E2.out.1, E2.out.2]; rfl, b1⟩
      · have ha0 : ¬ a < 1 := by omega
        go_enter Tryz.func59, Tryz.ntmps59
        go_wp2_with fail
        refine (rNext_0 g _).mono ?_
        rintro e w1 ⟨⟨x, rfl⟩, b1⟩
        rw [NX.out]
        go_wp2_with fail
        go_ret3
        exact ⟨by rw [E.out, E2.out.1, E2.out.2]; rfl, b1⟩
    · have ab : 1 ≤ a ∧ a ≤ 33 := by omega
      have E : Hid (cE 0 g a = 0) := Lib.hid (by unfold cE; rw [if_pos (by decide), if_pos hg, if_neg ha])
      have E2 : Hid (cX 0 g a = (a - 1) % 11 * 16 ∧ cY 0 g a = (a - 1) / 11 * 16 + (g - 1) / 2 * 48) := Lib.hid (by unfold cX cY; rw [E.out, if_pos rfl, if_pos rfl]; rw [if_neg (by decide)]; exact ⟨by omega, rfl⟩)
      have r1 : (a - 1).tmod 11 = (a - 1) % 11 := Int.tmod_eq_emod_of_nonneg (by omega)
      have r2 : (a - 1).tdiv 11 = (a - 1) / 11 := Int.tdiv_eq_ediv_of_nonneg (by omega)
      have r3 : (g - 1).tdiv 2 = (g - 1) / 2 := Int.tdiv_eq_ediv_of_nonneg (by omega)
      have r4 : (g - 1).tmod 2 = (g - 1) % 2 := Int.tmod_eq_emod_of_nonneg (by omega)
      clear ha hg
      go_enter Tryz.func59, Tryz.ntmps59
      go_wp2_with fail
      refine (rNext_0 g _).mono ?_
      rintro e w1 ⟨⟨x, rfl⟩, b1⟩
      rw [NX.out]
      go_wp2_with fail
      go_ret3
      exact ⟨by rw [E.out, E2.out.1, E2.out.2]; rfl, b1⟩
  · have E : Hid (cE 0 g a = 8) := Lib.hid (by unfold cE; rw [if_pos (by decide), if_neg hg])
    have E2 : Hid (cX 0 g a = 0 ∧ cY 0 g a = 0) := Lib.hid (by unfold cX cY; rw [E.out]; exact ⟨rfl, rfl⟩)
    by_cases h0 : g = 0
    · have NX : Hid (nxE 0 g = 0) := Lib.hid (by unfold nxE; rw [if_pos (.inl h0)])
      have g0 : (g == 0) = true := by simp [h0]
      clear hg h0
      go_enter Tryz.func59, Tryz.ntmps59
      go_wp2_with fail
      refine (rNext_0 g _).mono ?_
      rintro e w1 ⟨⟨x, rfl⟩, b1⟩
      rw [NX.out]
      go_wp2_with fail
      go_ret3
      exact ⟨by rw [E.out, E2.out.1, E2.out.2]; rfl, b1⟩
    · have NX : Hid (nxE 0 g = 8) := Lib.hid (by unfold nxE; rw [if_neg (fun h => h.elim h0 hg)])
      clear hg h0
      go_enter Tryz.func59, Tryz.ntmps59
      go_wp2_with fail
      refine (rNext_0 g _).mono ?_
      rintro e w1 ⟨⟨x, rfl⟩, b1⟩
      rw [NX.out]
      go_wp2_with fail
      go_ret3
      exact ⟨by rw [E.out, E2.out.1, E2.out.2]; rfl, b1⟩
theorem rGroups_1 (w : World) : Calls Tryz.prog 144 #[.int .i64 1] w fun e w' => ∃ gg, e = .returned (.tuple #[.slice (some ⟨gg, 0, none⟩) 12 12, .int .i64 0]) ∧ w.heap.size ≤ gg ∧ gg < w'.heap.size ∧ Arr w' .i64 gg 12 (grF 1) ∧ Below w.heap.size w w' := by
  go_enter Tryz.func144, Tryz.ntmps144
  go_wp2_with fail
  go_ret2
  refine ⟨w.heap.size, rfl, Nat.le_refl _, by simp, Arr.new w .i64 #[.int .i64 1, .int .i64 2, .int .i64 3, .int .i64 4, .int .i64 5, .int .i64 6, .int .i64 7, .int .i64 8, .int .i64 9, .int .i64 10, .int .i64 11, .int .i64 12] 3 12 (grF 1) (fun i hi => ?_), (Below.refl _ _).alloc (Nat.le_refl _) _⟩
  rcases (by omega : i = 0 ∨ i = 1 ∨ i = 2 ∨ i = 3 ∨ i = 4 ∨ i = 5 ∨ i = 6 ∨ i = 7 ∨ i = 8 ∨ i = 9 ∨ i = 10 ∨ i = 11) with rfl | rfl | rfl | rfl | rfl | rfl | rfl | rfl | rfl | rfl | rfl | rfl <;> rfl
theorem rNext_1 (g : Int) (w : World) : Calls Tryz.prog 102 #[.int .i64 1, .int .i64 g] w fun e w' => (∃ x, e = .returned (.tuple #[.int .i64 x, .int .i64 (nxE 1 g)])) ∧ Below w.heap.size w w' := by
  go_enter Tryz.func102, Tryz.ntmps102
  go_wp2_with fail
  refine (rGroups_1 _).mono ?_
  rintro e w1 ⟨gg, rfl, h1, h2, hA, b1⟩
  have HA := Lib.hid hA
  have HB := Lib.hid b1
  clear hA b1 h1
  by_cases h0 : g = 0
  · have k0 : (g == 0) = true := by simp [h0]
    have E : Hid (nxE 1 g = 0) := Lib.hid (by unfold nxE; rw [if_pos (.inl h0)])
    clear h0
    go_wp2_with fail
    go_ret2
    exact ⟨⟨_, by rw [E.out]; rfl⟩, HB.out⟩
  · have k0 : (g == 0) = false := by simp [h0]
    have H0 := Lib.hid h0
    clear h0
    go_wp2_with fail
    go_loopw [8] (fun i wr => ∃ k : Nat, k ≤ 12 ∧ i = .int .i64 k ∧ (Hid (∀ j, j < k → g ≠ grF 1 j)) ∧ wr = w1) (fun i _ => 12 - (intOf i).toNat)
    case atStart => exact ⟨0, by omega, rfl, Lib.hid (fun j hj => by omega), rfl⟩
    case round =>
      obtain ⟨k, hk, rfl, hN, rfl⟩ := hrel
      by_cases hkM : k < 12
      · have ck := (HA.out k hkM).1
        have kb : (0 : Int) ≤ (k : Int) ∧ (k : Int) < 12 := by omega
        have dk : decide ((k : Int) < 12) = true := by simp; omega
        obtain ⟨A, hAe⟩ : ∃ A, grF 1 k = A := ⟨_, rfl⟩
        rw [hAe] at ck
        have HE := Lib.hid hAe
        clear hAe
        by_cases hq : A = g
        · have E : Hid (nxE 1 g = 0) := Lib.hid (by unfold nxE; rw [if_pos (.inr (by unfold inG; rw [decide_eq_true_eq]; exact ixF_yes (hq.symm.trans HE.out.symm) _ hkM))])
          have t1 : (A == g) = true := by simp [hq]
          clear hq
          by_cases hl : k = 11
          · have t2 : ((k : Int) == 11) = true := by simp [hl]
            clear hl
            go_wp2_with fail
            go_ret2
            exact ⟨⟨_, by rw [E.out]; rfl⟩, HB.out⟩
          · have t2 : ((k : Int) == 11) = false := by simp; omega
            have ck2 := (HA.out (k + 1) (by omega)).1
            have kb2 : (k : Int) + 1 < 12 := by omega
            clear hl
            go_wp2_with fail
            go_ret2
            exact ⟨⟨_, by rw [E.out]; rfl⟩, HB.out⟩
        · have t1 : (A == g) = false := by simp [hq]
          have HQ := Lib.hid hq
          clear hq
          go_wp2_with fail
          go_roundw
          case rel =>
            refine ⟨k + 1, by omega, by go_num, Lib.hid (fun j hj => ?_), by trivial⟩
            by_cases e : j = k
            · subst e; rw [HE.out]; exact fun h => HQ.out h.symm
            · exact hN.out j (by omega)
          case measure => simp [intOf]; omega
      · have dk : decide ((k : Int) < 12) = false := by simp; omega
        have E : Hid (nxE 1 g = 8) := Lib.hid (by
          unfold nxE
          rw [if_neg]
          rintro (h | h)
          · exact H0.out h
          · unfold inG at h
            rw [decide_eq_true_eq, ixF_no (f := grF 1) (x := g) (grN 1) (fun j hj => hN.out j (Nat.lt_of_lt_of_le hj (by show 12 ≤ k; omega)))] at h
            omega)
        have hk' : (12 : Int) ≤ (k : Int) := by omega
        go_wp2_with fail
        go_ret2
        exact ⟨⟨_, by rw [E.out]; rfl⟩, HB.out⟩
theorem rCorner_1 (g a : Int) (w : World) : Calls Tryz.prog 59 #[.int .i64 1, .int .i64 g, .int .i64 a] w fun e w' => e = .returned (.tuple #[.int .i64 (cX 1 g a), .int .i64 (cY 1 g a), .int .i64 (cE 1 g a)]) ∧ Below w.heap.size w w' := by
  by_cases hg : inG 1 g = true
  · have gb := inG_bd1 hg
    have NX : Hid (nxE 1 g = 0) := Lib.hid (by unfold nxE; rw [if_pos (.inr hg)])
    have g0 : (g == 0) = false := by simp; omega
    by_cases ha : a < 1 ∨ 33 < a
    · have E : Hid (cE 1 g a = 13) := Lib.hid (by unfold cE; rw [if_pos (by decide), if_pos hg, if_pos ha])
      have E2 : Hid (cX 1 g a = 0 ∧ cY 1 g a = 0) := Lib.hid (by unfold cX cY; rw [E.out]; exact ⟨rfl, rfl⟩)
      clear hg
      rcases ha with ha | ha
      · go_enter Tryz.func59, Tryz.ntmps59
        go_wp2_with fail
        refine (rNext_1 g _).mono ?_
        rintro e w1 ⟨⟨x, rfl⟩, b1⟩
        rw [NX.out]
        go_wp2_with fail
        go_ret3
        exact ⟨by rw [E.out, E2.out.1, E2.out.2]; rfl, b1⟩
      · have ha0 : ¬ a < 1 := by omega
        go_enter Tryz.func59, Tryz.ntmps59
        go_wp2_with fail
        refine (rNext_1 g _).mono ?_
        rintro e w1 ⟨⟨x, rfl⟩, b1⟩
        rw [NX.out]
        go_wp2_with fail
        go_ret3
        exact ⟨by rw [E.out, E2.out.1, E2.out.2]; rfl, b1⟩
    · have ab : 1 ≤ a ∧ a ≤ 33 := by omega
      have E : Hid (cE 1 g a = 0) := Lib.hid (by unfold cE; rw [if_pos (by decide), if_pos hg, if_neg ha])
      have E2 : Hid (cX 1 g a = (a - 1) % 11 * 16 + (g - 1) % 2 * 176 ∧ cY 1 g a = (a - 1) / 11 * 16 + (g - 1) / 2 * 48) := Lib.hid (by unfold cX cY; rw [E.out, if_pos rfl, if_pos rfl]; rw [if_pos (by decide)]; exact ⟨rfl, rfl⟩)
      have r1 : (a - 1).tmod 11 = (a - 1) % 11 := Int.tmod_eq_emod_of_nonneg (by omega)
      have r2 : (a - 1).tdiv 11 = (a - 1) / 11 := Int.tdiv_eq_ediv_of_nonneg (by omega)
      have r3 : (g - 1).tdiv 2 = (g - 1) / 2 := Int.tdiv_eq_ediv_of_nonneg (by omega)
      have r4 : (g - 1).tmod 2 = (g - 1) % 2 := Int.tmod_eq_emod_of_nonneg (by omega)
      clear ha hg
      go_enter Tryz.func59, Tryz.ntmps59
      go_wp2_with fail
      refine (rNext_1 g _).mono ?_
      rintro e w1 ⟨⟨x, rfl⟩, b1⟩
      rw [NX.out]
      go_wp2_with fail
      go_ret3
      exact ⟨by rw [E.out, E2.out.1, E2.out.2]; rfl, b1⟩
  · have E : Hid (cE 1 g a = 8) := Lib.hid (by unfold cE; rw [if_pos (by decide), if_neg hg])
    have E2 : Hid (cX 1 g a = 0 ∧ cY 1 g a = 0) := Lib.hid (by unfold cX cY; rw [E.out]; exact ⟨rfl, rfl⟩)
    by_cases h0 : g = 0
    · have NX : Hid (nxE 1 g = 0) := Lib.hid (by unfold nxE; rw [if_pos (.inl h0)])
      have g0 : (g == 0) = true := by simp [h0]
      clear hg h0
      go_enter Tryz.func59, Tryz.ntmps59
      go_wp2_with fail
      refine (rNext_1 g _).mono ?_
      rintro e w1 ⟨⟨x, rfl⟩, b1⟩
      rw [NX.out]
      go_wp2_with fail
      go_ret3
      exact ⟨by rw [E.out, E2.out.1, E2.out.2]; rfl, b1⟩
    · have NX : Hid (nxE 1 g = 8) := Lib.hid (by unfold nxE; rw [if_neg (fun h => h.elim h0 hg)])
      clear hg h0
      go_enter Tryz.func59, Tryz.ntmps59
      go_wp2_with fail
      refine (rNext_1 g _).mono ?_
      rintro e w1 ⟨⟨x, rfl⟩, b1⟩
      rw [NX.out]
      go_wp2_with fail
      go_ret3
      exact ⟨by rw [E.out, E2.out.1, E2.out.2]; rfl, b1⟩
theorem rGroups_no (n : Int) (h : ¬ (n = 0 ∨ n = 1)) (w : World) : Calls Tryz.prog 144 #[.int .i64 n] w fun e w' => e = .returned (.tuple #[.slice none 0 0, .int .i64 3]) ∧ w = w' := by
  obtain ⟨k0, k1⟩ := eq_tests n h
  clear h
  go_enter Tryz.func144, Tryz.ntmps144
  go_wp2_with fail
  go_ret2
  exact ⟨rfl, rfl⟩
theorem rNext_no (n g : Int) (h : ¬ (n = 0 ∨ n = 1)) (w : World) : Calls Tryz.prog 102 #[.int .i64 n, .int .i64 g] w fun e w' => e = .returned (.tuple #[.int .i64 0, .int .i64 3]) ∧ w = w' := by
  go_enter Tryz.func102, Tryz.ntmps102
  go_wp2_with fail
  refine (rGroups_no n h _).mono ?_
  rintro e w1 ⟨rfl, rfl⟩
  go_wp2_with fail
  go_ret2
  exact ⟨rfl, rfl⟩
theorem rCorner_any (n g a : Int) (w : World) : Calls Tryz.prog 59 #[.int .i64 n, .int .i64 g, .int .i64 a] w fun e w' => e = .returned (.tuple #[.int .i64 (cX n g a), .int .i64 (cY n g a), .int .i64 (cE n g a)]) ∧ Below w.heap.size w w' := by
  by_cases h : n = 0 ∨ n = 1
  · rcases h with rfl | rfl
    · exact rCorner_0 g a w
    · exact rCorner_1 g a w
  · have E : Hid (cE n g a = 3) := Lib.hid (by unfold cE; rw [if_neg h])
    have E2 : Hid (cX n g a = 0 ∧ cY n g a = 0) := Lib.hid (by unfold cX cY; rw [E.out]; exact ⟨rfl, rfl⟩)
    go_enter Tryz.func59, Tryz.ntmps59
    go_wp2_with fail
    refine (rNext_no n g h _).mono ?_
    rintro e w1 ⟨rfl, rfl⟩
    go_wp2_with fail
    go_ret3
    exact ⟨by rw [E.out, E2.out.1, E2.out.2]; rfl, Below.refl _ _⟩
def plE (n g a k : Int) : Int := if cE n g a ≠ 0 then cE n g a else if k < 1 ∨ 6 < k then 3 else 0
def plA (n g a k : Int) : Int := if plE n g a k = 0 then (if k ≤ 4 then (cY n g a + (k - 1) / 2 * 8) * wV n + cX n g a + (k - 1) % 2 * 8 else wV n * hV n + (k - 5) * (wV n * hV n / 4) + cY n g a / 2 * (wV n / 2) + cX n g a / 2) else 0
def plS (n g a k : Int) : Int := if plE n g a k = 0 then (if k ≤ 4 then wV n else wV n / 2) else 0
theorem rPlace_no1 (n g a k : Int) (w : World) (hc : cE n g a ≠ 0) : Calls Tryz.prog 116 #[.int .i64 n, .int .i64 g, .int .i64 a, .int .i64 k] w fun e w' => e = .returned (.tuple #[.int .i64 (plA n g a k), .int .i64 (plS n g a k), .int .i64 (plE n g a k)]) ∧ Below w.heap.size w w' := by
  have E : Hid (plE n g a k = cE n g a) := Lib.hid (by unfold plE; rw [if_pos hc])
  have E2 : Hid (plA n g a k = 0 ∧ plS n g a k = 0) := Lib.hid (by unfold plA plS; rw [E.out, if_neg hc, if_neg hc]; exact ⟨rfl, rfl⟩)
  have t0 : (cE n g a != 0) = true := by simpa using hc
  clear hc
  go_enter Tryz.func116, Tryz.ntmps116
  go_wp2_with fail
  refine (rCorner_any n g a _).mono ?_
  rintro e w1 ⟨rfl, b1⟩
  go_wp2_with fail
  go_ret3
  exact ⟨by rw [E.out, E2.out.1, E2.out.2]; rfl, b1⟩
theorem rPlace_no2 (n g a k : Int) (w : World) (hc : cE n g a = 0) (hk : k < 1 ∨ 6 < k) : Calls Tryz.prog 116 #[.int .i64 n, .int .i64 g, .int .i64 a, .int .i64 k] w fun e w' => e = .returned (.tuple #[.int .i64 (plA n g a k), .int .i64 (plS n g a k), .int .i64 (plE n g a k)]) ∧ Below w.heap.size w w' := by
  have E : Hid (plE n g a k = 3) := Lib.hid (by unfold plE; rw [if_neg (by omega), if_pos hk])
  have E2 : Hid (plA n g a k = 0 ∧ plS n g a k = 0) := Lib.hid (by unfold plA plS; rw [E.out]; exact ⟨rfl, rfl⟩)
  have HC := Lib.hid hc
  clear hc
  rcases hk with hk | hk
  · go_enter Tryz.func116, Tryz.ntmps116
    go_wp2_with fail
    refine (rCorner_any n g a _).mono ?_
    rintro e w1 ⟨rfl, b1⟩
    rw [HC.out]
    go_wp2_with fail
    refine (rSize_any n _).mono ?_
    rintro e w2 ⟨rfl, rfl⟩
    go_wp2_with fail
    go_ret3
    exact ⟨by rw [E.out, E2.out.1, E2.out.2]; rfl, b1⟩
  · have hk1 : ¬ k < 1 := by omega
    go_enter Tryz.func116, Tryz.ntmps116
    go_wp2_with fail
    refine (rCorner_any n g a _).mono ?_
    rintro e w1 ⟨rfl, b1⟩
    rw [HC.out]
    go_wp2_with fail
    refine (rSize_any n _).mono ?_
    rintro e w2 ⟨rfl, rfl⟩
    go_wp2_with fail
    go_ret3
    exact ⟨by rw [E.out, E2.out.1, E2.out.2]; rfl, b1⟩
theorem rPlace_ok (n g a k : Int) (hn : n = 0 ∨ n = 1) (w : World) (hc : cE n g a = 0) (hk : 1 ≤ k ∧ k ≤ 6) : Calls Tryz.prog 116 #[.int .i64 n, .int .i64 g, .int .i64 a, .int .i64 k] w fun e w' => e = .returned (.tuple #[.int .i64 (plA n g a k), .int .i64 (plS n g a k), .int .i64 (plE n g a k)]) ∧ Below w.heap.size w w' := by
  have E : Hid (plE n g a k = 0) := Lib.hid (by unfold plE; rw [if_neg (by omega), if_neg (by omega)])
  have bX := cX_bd n g a hc
  have bY := cY_bd n g a hc
  have bW := wh_bd n
  have HC := Lib.hid hc
  obtain ⟨X, hX⟩ : ∃ X, cX n g a = X := ⟨_, rfl⟩
  obtain ⟨Y, hY⟩ : ∃ Y, cY n g a = Y := ⟨_, rfl⟩
  rw [hX] at bX
  rw [hY] at bY
  have HX := Lib.hid hX
  have HY := Lib.hid hY
  have X0 : 0 ≤ X ∧ X ≤ 400 := by omega
  have Y0 : 0 ≤ Y ∧ Y ≤ 400 := by omega
  clear hX hY hc bX bY bW
  rcases (by omega : k = 1 ∨ k = 2 ∨ k = 3 ∨ k = 4 ∨ k = 5 ∨ k = 6) with rfl | rfl | rfl | rfl | rfl | rfl
  · rcases hn with rfl | rfl
    · have E2 : Hid (plA 0 g a 1 = (Y + 0) * 176 + X + 0 ∧ plS 0 g a 1 = 176) := Lib.hid (by
        have w1 : wV 0 = 176 := rfl
        have h1 : hV 0 = 144 := rfl
        unfold plA plS; rw [E.out, HX.out, HY.out, w1, h1]; simp)
      go_enter Tryz.func116, Tryz.ntmps116
      go_wp2_with fail
      refine (rCorner_any 0 g a _).mono ?_
      rintro e w1 ⟨rfl, b1⟩
      rw [HC.out, HX.out, HY.out]
      go_wp2_with fail
      refine (rSize_any 0 _).mono ?_
      rintro e w2 ⟨rfl, rfl⟩
      rw [show wV 0 = 176 from rfl, show hV 0 = 144 from rfl]
      go_wp2_with fail
      go_ret3
      exact ⟨by rw [E.out, E2.out.1, E2.out.2]; first | rfl | (congr 1; simp; omega) | simp, b1⟩
    · have E2 : Hid (plA 1 g a 1 = (Y + 0) * 352 + X + 0 ∧ plS 1 g a 1 = 352) := Lib.hid (by
        have w1 : wV 1 = 352 := rfl
        have h1 : hV 1 = 288 := rfl
        unfold plA plS; rw [E.out, HX.out, HY.out, w1, h1]; simp)
      go_enter Tryz.func116, Tryz.ntmps116
      go_wp2_with fail
      refine (rCorner_any 1 g a _).mono ?_
      rintro e w1 ⟨rfl, b1⟩
      rw [HC.out, HX.out, HY.out]
      go_wp2_with fail
      refine (rSize_any 1 _).mono ?_
      rintro e w2 ⟨rfl, rfl⟩
      rw [show wV 1 = 352 from rfl, show hV 1 = 288 from rfl]
      go_wp2_with fail
      go_ret3
      exact ⟨by rw [E.out, E2.out.1, E2.out.2]; first | rfl | (congr 1; simp; omega) | simp, b1⟩
  · rcases hn with rfl | rfl
    · have E2 : Hid (plA 0 g a 2 = (Y + 0) * 176 + X + 8 ∧ plS 0 g a 2 = 176) := Lib.hid (by
        have w1 : wV 0 = 176 := rfl
        have h1 : hV 0 = 144 := rfl
        unfold plA plS; rw [E.out, HX.out, HY.out, w1, h1]; simp)
      go_enter Tryz.func116, Tryz.ntmps116
      go_wp2_with fail
      refine (rCorner_any 0 g a _).mono ?_
      rintro e w1 ⟨rfl, b1⟩
      rw [HC.out, HX.out, HY.out]
      go_wp2_with fail
      refine (rSize_any 0 _).mono ?_
      rintro e w2 ⟨rfl, rfl⟩
      rw [show wV 0 = 176 from rfl, show hV 0 = 144 from rfl]
      go_wp2_with fail
      go_ret3
      exact ⟨by rw [E.out, E2.out.1, E2.out.2]; first | rfl | (congr 1; simp; omega) | simp, b1⟩
    · have E2 : Hid (plA 1 g a 2 = (Y + 0) * 352 + X + 8 ∧ plS 1 g a 2 = 352) := Lib.hid (by
        have w1 : wV 1 = 352 := rfl
        have h1 : hV 1 = 288 := rfl
        unfold plA plS; rw [E.out, HX.out, HY.out, w1, h1]; simp)
      go_enter Tryz.func116, Tryz.ntmps116
      go_wp2_with fail
      refine (rCorner_any 1 g a _).mono ?_
      rintro e w1 ⟨rfl, b1⟩
      rw [HC.out, HX.out, HY.out]
      go_wp2_with fail
      refine (rSize_any 1 _).mono ?_
      rintro e w2 ⟨rfl, rfl⟩
      rw [show wV 1 = 352 from rfl, show hV 1 = 288 from rfl]
      go_wp2_with fail
      go_ret3
      exact ⟨by rw [E.out, E2.out.1, E2.out.2]; first | rfl | (congr 1; simp; omega) | simp, b1⟩
  · rcases hn with rfl | rfl
    · have E2 : Hid (plA 0 g a 3 = (Y + 8) * 176 + X + 0 ∧ plS 0 g a 3 = 176) := Lib.hid (by
        have w1 : wV 0 = 176 := rfl
        have h1 : hV 0 = 144 := rfl
        unfold plA plS; rw [E.out, HX.out, HY.out, w1, h1]; simp)
      go_enter Tryz.func116, Tryz.ntmps116
      go_wp2_with fail
      refine (rCorner_any 0 g a _).mono ?_
      rintro e w1 ⟨rfl, b1⟩
      rw [HC.out, HX.out, HY.out]
      go_wp2_with fail
      refine (rSize_any 0 _).mono ?_
      rintro e w2 ⟨rfl, rfl⟩
      rw [show wV 0 = 176 from rfl, show hV 0 = 144 from rfl]
      go_wp2_with fail
      go_ret3
      exact ⟨by rw [E.out, E2.out.1, E2.out.2]; first | rfl | (congr 1; simp; omega) | simp, b1⟩
    · have E2 : Hid (plA 1 g a 3 = (Y + 8) * 352 + X + 0 ∧ plS 1 g a 3 = 352) := Lib.hid (by
        have w1 : wV 1 = 352 := rfl
        have h1 : hV 1 = 288 := rfl
        unfold plA plS; rw [E.out, HX.out, HY.out, w1, h1]; simp)
      go_enter Tryz.func116, Tryz.ntmps116
      go_wp2_with fail
      refine (rCorner_any 1 g a _).mono ?_
      rintro e w1 ⟨rfl, b1⟩
      rw [HC.out, HX.out, HY.out]
      go_wp2_with fail
      refine (rSize_any 1 _).mono ?_
      rintro e w2 ⟨rfl, rfl⟩
      rw [show wV 1 = 352 from rfl, show hV 1 = 288 from rfl]
      go_wp2_with fail
      go_ret3
      exact ⟨by rw [E.out, E2.out.1, E2.out.2]; first | rfl | (congr 1; simp; omega) | simp, b1⟩
  · rcases hn with rfl | rfl
    · have E2 : Hid (plA 0 g a 4 = (Y + 8) * 176 + X + 8 ∧ plS 0 g a 4 = 176) := Lib.hid (by
        have w1 : wV 0 = 176 := rfl
        have h1 : hV 0 = 144 := rfl
        unfold plA plS; rw [E.out, HX.out, HY.out, w1, h1]; simp)
      go_enter Tryz.func116, Tryz.ntmps116
      go_wp2_with fail
      refine (rCorner_any 0 g a _).mono ?_
      rintro e w1 ⟨rfl, b1⟩
      rw [HC.out, HX.out, HY.out]
      go_wp2_with fail
      refine (rSize_any 0 _).mono ?_
      rintro e w2 ⟨rfl, rfl⟩
      rw [show wV 0 = 176 from rfl, show hV 0 = 144 from rfl]
      go_wp2_with fail
      go_ret3
      exact ⟨by rw [E.out, E2.out.1, E2.out.2]; first | rfl | (congr 1; simp; omega) | simp, b1⟩
    · have E2 : Hid (plA 1 g a 4 = (Y + 8) * 352 + X + 8 ∧ plS 1 g a 4 = 352) := Lib.hid (by
        have w1 : wV 1 = 352 := rfl
        have h1 : hV 1 = 288 := rfl
        unfold plA plS; rw [E.out, HX.out, HY.out, w1, h1]; simp)
      go_enter Tryz.func116, Tryz.ntmps116
      go_wp2_with fail
      refine (rCorner_any 1 g a _).mono ?_
      rintro e w1 ⟨rfl, b1⟩
      rw [HC.out, HX.out, HY.out]
      go_wp2_with fail
      refine (rSize_any 1 _).mono ?_
      rintro e w2 ⟨rfl, rfl⟩
      rw [show wV 1 = 352 from rfl, show hV 1 = 288 from rfl]
      go_wp2_with fail
      go_ret3
      exact ⟨by rw [E.out, E2.out.1, E2.out.2]; first | rfl | (congr 1; simp; omega) | simp, b1⟩
  · rcases hn with rfl | rfl
    · have E2 : Hid (plA 0 g a 5 = 25344 + Y / 2 * 88 + X / 2 ∧ plS 0 g a 5 = 88) := Lib.hid (by
        have w1 : wV 0 = 176 := rfl
        have h1 : hV 0 = 144 := rfl
        unfold plA plS; rw [E.out, HX.out, HY.out, w1, h1]; simp)
      have r1 : Y.tdiv 2 = Y / 2 := Int.tdiv_eq_ediv_of_nonneg (by omega)
      have r2 : X.tdiv 2 = X / 2 := Int.tdiv_eq_ediv_of_nonneg (by omega)
      go_enter Tryz.func116, Tryz.ntmps116
      go_wp2_with fail
      refine (rCorner_any 0 g a _).mono ?_
      rintro e w1 ⟨rfl, b1⟩
      rw [HC.out, HX.out, HY.out]
      go_wp2_with fail
      refine (rSize_any 0 _).mono ?_
      rintro e w2 ⟨rfl, rfl⟩
      rw [show wV 0 = 176 from rfl, show hV 0 = 144 from rfl]
      go_wp2_with fail
      go_ret3
      exact ⟨by rw [E.out, E2.out.1, E2.out.2]; first | rfl | (congr 1; simp; omega) | simp, b1⟩
    · have E2 : Hid (plA 1 g a 5 = 101376 + Y / 2 * 176 + X / 2 ∧ plS 1 g a 5 = 176) := Lib.hid (by
        have w1 : wV 1 = 352 := rfl
        have h1 : hV 1 = 288 := rfl
        unfold plA plS; rw [E.out, HX.out, HY.out, w1, h1]; simp)
      have r1 : Y.tdiv 2 = Y / 2 := Int.tdiv_eq_ediv_of_nonneg (by omega)
      have r2 : X.tdiv 2 = X / 2 := Int.tdiv_eq_ediv_of_nonneg (by omega)
      go_enter Tryz.func116, Tryz.ntmps116
      go_wp2_with fail
      refine (rCorner_any 1 g a _).mono ?_
      rintro e w1 ⟨rfl, b1⟩
      rw [HC.out, HX.out, HY.out]
      go_wp2_with fail
      refine (rSize_any 1 _).mono ?_
      rintro e w2 ⟨rfl, rfl⟩
      rw [show wV 1 = 352 from rfl, show hV 1 = 288 from rfl]
      go_wp2_with fail
      go_ret3
      exact ⟨by rw [E.out, E2.out.1, E2.out.2]; first | rfl | (congr 1; simp; omega) | simp, b1⟩
  · rcases hn with rfl | rfl
    · have E2 : Hid (plA 0 g a 6 = 31680 + Y / 2 * 88 + X / 2 ∧ plS 0 g a 6 = 88) := Lib.hid (by
        have w1 : wV 0 = 176 := rfl
        have h1 : hV 0 = 144 := rfl
        unfold plA plS; rw [E.out, HX.out, HY.out, w1, h1]; simp)
      have r1 : Y.tdiv 2 = Y / 2 := Int.tdiv_eq_ediv_of_nonneg (by omega)
      have r2 : X.tdiv 2 = X / 2 := Int.tdiv_eq_ediv_of_nonneg (by omega)
      go_enter Tryz.func116, Tryz.ntmps116
      go_wp2_with fail
      refine (rCorner_any 0 g a _).mono ?_
      rintro e w1 ⟨rfl, b1⟩
      rw [HC.out, HX.out, HY.out]
      go_wp2_with fail
      refine (rSize_any 0 _).mono ?_
      rintro e w2 ⟨rfl, rfl⟩
      rw [show wV 0 = 176 from rfl, show hV 0 = 144 from rfl]
      go_wp2_with fail
      go_ret3
      exact ⟨by rw [E.out, E2.out.1, E2.out.2]; first | rfl | (congr 1; simp; omega) | simp, b1⟩
    · have E2 : Hid (plA 1 g a 6 = 126720 + Y / 2 * 176 + X / 2 ∧ plS 1 g a 6 = 176) := Lib.hid (by
        have w1 : wV 1 = 352 := rfl
        have h1 : hV 1 = 288 := rfl
        unfold plA plS; rw [E.out, HX.out, HY.out, w1, h1]; simp)
      have r1 : Y.tdiv 2 = Y / 2 := Int.tdiv_eq_ediv_of_nonneg (by omega)
      have r2 : X.tdiv 2 = X / 2 := Int.tdiv_eq_ediv_of_nonneg (by omega)
      go_enter Tryz.func116, Tryz.ntmps116
      go_wp2_with fail
      refine (rCorner_any 1 g a _).mono ?_
      rintro e w1 ⟨rfl, b1⟩
      rw [HC.out, HX.out, HY.out]
      go_wp2_with fail
      refine (rSize_any 1 _).mono ?_
      rintro e w2 ⟨rfl, rfl⟩
      rw [show wV 1 = 352 from rfl, show hV 1 = 288 from rfl]
      go_wp2_with fail
      go_ret3
      exact ⟨by rw [E.out, E2.out.1, E2.out.2]; first | rfl | (congr 1; simp; omega) | simp, b1⟩
theorem rPlace_any (n g a k : Int) (w : World) : Calls Tryz.prog 116 #[.int .i64 n, .int .i64 g, .int .i64 a, .int .i64 k] w fun e w' => e = .returned (.tuple #[.int .i64 (plA n g a k), .int .i64 (plS n g a k), .int .i64 (plE n g a k)]) ∧ Below w.heap.size w w' := by
  by_cases hc : cE n g a = 0
  · by_cases hk : k < 1 ∨ 6 < k
    · exact rPlace_no2 n g a k w hc hk
    · exact rPlace_ok n g a k (cE_cases n g a hc).1 w hc (by omega)
  · exact rPlace_no1 n g a k w hc
end Rf
end Go.Proofs.YtbmglemjfodfhaaGreat
