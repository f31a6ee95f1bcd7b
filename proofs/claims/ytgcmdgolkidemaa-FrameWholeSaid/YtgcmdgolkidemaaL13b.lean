/- law13: FrameKnown, FrameTells, FrameRows. -/
import Derived.Test.YtgcmdgolkidemaaL13a
import Derived.Test.YtgcmdgolkidemaaSlices
import Derived.Test.YtgcmdgolkidemaaPick
namespace Go.Proofs.Ytgcmdgolkidemaa
open Go.RowKit
namespace L13
open Fr

theorem kn_facts : (wV 1 = 352 ∧ hV 1 = 288 ∧ zV 1 = 152064 ∧ fE 1 = 0) ∧ (wV 2 = 0 ∧ hV 2 = 0 ∧ zV 2 = 0 ∧ fE 2 = 3) ∧ (Nx.nV 0 0 = 1 ∧ Nx.nEr 0 0 = 0) ∧ (Nx.nV 1 12 = 0 ∧ Nx.nEr 1 12 = 0) ∧ (Nx.nV 0 2 = 0 ∧ Nx.nEr 0 2 = 8) ∧ (cX 1 4 33 = 336 ∧ cY 1 4 33 = 80 ∧ cE 1 4 33 = 0) ∧ (cX 0 2 1 = 0 ∧ cY 0 2 1 = 0 ∧ cE 0 2 1 = 8) ∧ (cX 1 1 34 = 0 ∧ cY 1 1 34 = 0 ∧ cE 1 1 34 = 13) ∧ (Pt.pA 0 1 1 4 = 1416 ∧ Pt.pS 0 1 1 4 = 176 ∧ Pt.pE 0 1 1 4 = 0) ∧ (Pt.pA 1 12 33 6 = 150824 ∧ Pt.pS 1 12 33 6 = 176 ∧ Pt.pE 1 12 33 6 = 0) ∧ (Pt.pA 0 1 1 7 = 0 ∧ Pt.pS 0 1 1 7 = 0 ∧ Pt.pE 0 1 1 7 = 3) := by decide +kernel
set_option maxRecDepth 100000 in
theorem FrameKnown_any (w : World) : Calls Try.prog 5 #[] w fun e w' => e = .returned (.bool true) ∧ Below w.heap.size w w' := by
  have KF := Lib.hid kn_facts
  have HB := Lib.hid (Below.refl w.heap.size w)
  go_enter Try.func5, Try.ntmps5
  go_wp2_with fail
  refine (Groups_any 0 _).mono ?_
  rintro e w1 ⟨v0, rfl, hR, b1⟩
  rw [show fE 0 = 0 from rfl]
  have HR := Lib.hid (show Res .i64 w.heap.size w1 v0 3 (grF 0) from hR)
  have HB := Lib.hid b1
  clear hR b1
  go_wp2_with fail
  refine (sized_lit _ _ _ _ _ _ KF.out.1).mono ?_
  rintro e w2 ⟨rfl, rfl⟩
  go_wp2_with fail
  refine (sized_lit _ _ _ _ _ _ KF.out.2.1).mono ?_
  rintro e w2 ⟨rfl, rfl⟩
  go_wp2_with fail
  have S3 := Lib.hid (show Sl .i64 (w1.alloc (.cells #[.int .i64 1, .int .i64 3, .int .i64 5] 3)) (.slice (some ⟨w1.heap.size, 0, none⟩) 3 3) 3 (grF 0) from ⟨_, 3, rfl, Nat.le_refl _, by decide, .inr ⟨_, 0, rfl, by simp, fun i hi => by
    rw [Nat.zero_add, cell_of_row _ _ i _ 3 (0, 0) (heap_alloc_new w1 _)]
    rcases (by omega : i = 0 ∨ i = 1 ∨ i = 2) with rfl | rfl | rfl <;> rfl⟩⟩)
  have HR := Lib.hid (HR.out.below ((Below.refl w1.heap.size w1).alloc (Nat.le_refl _) (.cells #[.int .i64 1, .int .i64 3, .int .i64 5] 3)))
  have HB := Lib.hid (HB.out.alloc HB.out.size (.cells #[.int .i64 1, .int .i64 3, .int .i64 5] 3))
  refine (SameInts_true _ _ 3 (grF 0) (grF 0) _ (by decide) HR.out.sl S3.out (fun _ _ => rfl)).mono ?_
  rintro e w2 ⟨rfl, b2⟩
  have HB := Lib.hid (chain HB.out b2)
  clear b2 HR S3
  go_wp2_with fail
  refine (next_lit _ _ _ _ _ KF.out.2.2.1).mono ?_
  rintro e w3 ⟨rfl, b3⟩
  have HB := Lib.hid (chain HB.out b3)
  clear b3
  go_wp2_with fail
  refine (next_lit _ _ _ _ _ KF.out.2.2.2.1).mono ?_
  rintro e w4 ⟨rfl, b4⟩
  have HB := Lib.hid (chain HB.out b4)
  clear b4
  go_wp2_with fail
  refine (next_lit _ _ _ _ _ KF.out.2.2.2.2.1).mono ?_
  rintro e w5 ⟨rfl, b5⟩
  have HB := Lib.hid (chain HB.out b5)
  clear b5
  go_wp2_with fail
  refine (corner_lit _ _ _ _ _ _ _ KF.out.2.2.2.2.2.1).mono ?_
  rintro e w6 ⟨rfl, b6⟩
  have HB := Lib.hid (chain HB.out b6)
  clear b6
  go_wp2_with fail
  refine (corner_lit _ _ _ _ _ _ _ KF.out.2.2.2.2.2.2.1).mono ?_
  rintro e w7 ⟨rfl, b7⟩
  have HB := Lib.hid (chain HB.out b7)
  clear b7
  go_wp2_with fail
  refine (corner_lit _ _ _ _ _ _ _ KF.out.2.2.2.2.2.2.2.1).mono ?_
  rintro e w8 ⟨rfl, b8⟩
  have HB := Lib.hid (chain HB.out b8)
  clear b8
  go_wp2_with fail
  refine (awake_any _).mono ?_
  rintro e w9 ⟨rfl, b9⟩
  have HB := Lib.hid (chain HB.out b9)
  clear b9
  go_wp2_with fail
  refine (place_lit _ _ _ _ _ _ _ _ KF.out.2.2.2.2.2.2.2.2.1).mono ?_
  rintro e w10 ⟨rfl, b10⟩
  have HB := Lib.hid (chain HB.out b10)
  clear b10
  go_wp2_with fail
  refine (place_lit _ _ _ _ _ _ _ _ KF.out.2.2.2.2.2.2.2.2.2.1).mono ?_
  rintro e w11 ⟨rfl, b11⟩
  have HB := Lib.hid (chain HB.out b11)
  clear b11
  go_wp2_with fail
  refine (place_lit _ _ _ _ _ _ _ _ KF.out.2.2.2.2.2.2.2.2.2.2).mono ?_
  rintro e w12 ⟨rfl, b12⟩
  have HB := Lib.hid (chain HB.out b12)
  clear b12
  go_wp2_with fail
  go_ret
  exact ⟨rfl, HB.out⟩

theorem rGroups_any (n : Int) (w : World) : Calls Try.prog 11 #[.int .i64 n] w fun e w' => ∃ v, e = .returned (.tuple #[v, .int .i64 (fE n)]) ∧ Res .i64 w.heap.size w' v (grN n) (grF n) ∧ Below w.heap.size w w' := by
  by_cases h : n = 0 ∨ n = 1
  · rcases h with rfl | rfl
    · exact (Rf.rGroups_0 w).mono fun e w' ⟨gg, h1, h2, h3, h4, h5⟩ => ⟨_, h1, .inr ⟨gg, 3, rfl, h2, h3, Nat.le_refl _, by decide, h4⟩, h5⟩
    · exact (Rf.rGroups_1 w).mono fun e w' ⟨gg, h1, h2, h3, h4, h5⟩ => ⟨_, h1, .inr ⟨gg, 12, rfl, h2, h3, Nat.le_refl _, by decide, h4⟩, h5⟩
  · have E : Hid (fE n = 3 ∧ grN n = 0) := Lib.hid (by unfold fE grN; rw [if_neg h, if_neg (by omega), if_neg (by omega)]; exact ⟨rfl, rfl⟩)
    obtain ⟨k0, k1⟩ := eq_tests n h
    clear h
    go_enter Try.func11, Try.ntmps11
    go_wp2_with fail
    go_ret2
    exact ⟨_, by rw [E.out.1]; rfl, .inl ⟨E.out.2, rfl⟩, Below.refl _ _⟩
theorem nv_hit (n g : Int) (hn : n = 0 ∨ n = 1) (k : Nat) (hk : k < grN n) (hg : g = grF n k) : Nx.nV n g = if k + 1 = grN n then 0 else grF n (k + 1) := by
  unfold Nx.nV
  have hi : inG n g = true := by unfold inG; rw [decide_eq_true_eq]; exact ixF_yes hg _ hk
  rw [if_pos hn]
  rcases hn with rfl | rfl
  · have e : grN 0 = 3 := rfl
    rw [e] at hk ⊢
    unfold grF at hg ⊢
    rw [if_neg (by omega), if_pos hi, if_pos rfl]
    by_cases h : k + 1 = 3
    · rw [if_pos (by omega), if_pos h]
    · rw [if_neg (by omega), if_neg h]; omega
  · have e : grN 1 = 12 := rfl
    rw [e] at hk ⊢
    unfold grF at hg ⊢
    rw [if_neg (by omega), if_pos hi, show (if (1 : Int) = 0 then (5 : Int) else 12) = 12 from rfl]
    by_cases h : k + 1 = 12
    · rw [if_pos (by omega), if_pos h]
    · rw [if_neg (by omega), if_neg h]; omega
theorem nv_no (n g : Int) (h0 : g ≠ 0) (h : inG n g = false) : Nx.nV n g = 0 := by
  unfold Nx.nV
  rw [if_neg h0, if_neg (show ¬ inG n g = true by rw [h]; decide), ite_self]
set_option maxRecDepth 100000 in
theorem rNextV_0 (g : Int) (w : World) : Calls Try.prog 13 #[.int .i64 0, .int .i64 g] w fun e w' => e = .returned (.tuple #[.int .i64 (Nx.nV 0 g), .int .i64 (Nx.nEr 0 g)]) ∧ Below w.heap.size w w' := by
  go_enter Try.func13, Try.ntmps13
  go_wp2_with fail
  refine (Rf.rGroups_0 _).mono ?_
  rintro e w1 ⟨gg, rfl, h1, h2, hA, b1⟩
  have HA := Lib.hid hA
  have HB := Lib.hid b1
  clear hA b1 h1
  by_cases h0 : g = 0
  · have k0 : (g == 0) = true := by simp [h0]
    have E : Hid (Nx.nEr 0 g = 0) := Lib.hid (by unfold Nx.nEr; rw [if_pos (by decide), if_pos (.inl h0)])
    have E2 : Hid (Nx.nV 0 g = 1) := Lib.hid (by subst h0; rfl)
    clear h0
    go_wp2_with fail
    go_ret2
    exact ⟨by rw [E.out, E2.out]; rfl, HB.out⟩
  · have k0 : (g == 0) = false := by simp [h0]
    have H0 := Lib.hid h0
    clear h0
    go_wp2_with fail
    go_loopw [8] (fun i wr => ∃ k : Nat, k ≤ 3 ∧ i = .int .i64 k ∧ (Hid (∀ j, j < k → g ≠ grF 0 j)) ∧ wr = w1) (fun i _ => 3 - (intOf i).toNat)
    case atStart => exact ⟨0, by omega, rfl, Lib.hid (fun j hj => by omega), rfl⟩
    case round =>
      obtain ⟨k, hk, rfl, hN, rfl⟩ := hrel
      by_cases hkM : k < 3
      · have ck := (HA.out k hkM).1
        have kb : (0 : Int) ≤ (k : Int) ∧ (k : Int) < 3 := by omega
        have dk : decide ((k : Int) < 3) = true := by simp; omega
        obtain ⟨A, hAe⟩ : ∃ A, grF 0 k = A := ⟨_, rfl⟩
        rw [hAe] at ck
        have HE := Lib.hid hAe
        clear hAe
        by_cases hq : A = g
        · have NV := Lib.hid (nv_hit 0 g (by decide) k hkM (hq.symm.trans HE.out.symm))
          have E : Hid (Nx.nEr 0 g = 0) := Lib.hid (by unfold Nx.nEr; rw [if_pos (by decide), if_pos (.inr (by unfold inG; rw [decide_eq_true_eq]; exact ixF_yes (hq.symm.trans HE.out.symm) _ hkM))])
          have t1 : (A == g) = true := by simp [hq]
          clear hq
          by_cases hl : k = 2
          · have t2 : ((k : Int) == 2) = true := by simp [hl]
            have E2 : Hid (Nx.nV 0 g = 0) := Lib.hid (by rw [NV.out, if_pos (by rw [hl]; rfl)])
            clear hl NV
            go_wp2_with fail
            go_ret2
            exact ⟨by rw [E.out, E2.out]; rfl, HB.out⟩
          · have t2 : ((k : Int) == 2) = false := by simp; omega
            have ck2 := (HA.out (k + 1) (by omega)).1
            obtain ⟨B, hBe⟩ : ∃ B, grF 0 (k + 1) = B := ⟨_, rfl⟩
            rw [hBe] at ck2
            have E2 : Hid (Nx.nV 0 g = B) := Lib.hid (by rw [NV.out, if_neg (by show ¬ k + 1 = 3; omega), hBe])
            have kb2 : (k : Int) + 1 < 3 := by omega
            clear hl hBe NV
            go_wp2_with fail
            go_ret2
            exact ⟨by rw [E.out, E2.out]; rfl, HB.out⟩
        · have t1 : (A == g) = false := by simp [hq]
          have HQ := Lib.hid hq
          clear hq
          go_wp2_with fail
          go_roundw
          case rel =>
            refine ⟨k + 1, by omega, by go_num, Lib.hid (fun j hj => ?_), by trivial⟩
            by_cases e : j = k
            · subst e; rw [HE.out]; exact fun h => HQ.out h.symm
            · exact hN.out j (by omega)
          case measure => simp [intOf]; omega
      · have dk : decide ((k : Int) < 3) = false := by simp; omega
        have hno : inG 0 g = false := by
          unfold inG
          rw [ixF_no (f := grF 0) (x := g) (grN 0) (fun j hj => hN.out j (Nat.lt_of_lt_of_le hj (by show 3 ≤ k; omega)))]
          decide
        have E : Hid (Nx.nEr 0 g = 8) := Lib.hid (by unfold Nx.nEr; rw [if_pos (by decide), if_neg (fun h => h.elim H0.out (by rw [hno]; decide))])
        have E2 := Lib.hid (nv_no 0 g H0.out hno)
        have hk' : (3 : Int) ≤ (k : Int) := by omega
        clear hno
        go_wp2_with fail
        go_ret2
        exact ⟨by rw [E.out, E2.out]; rfl, HB.out⟩
set_option maxRecDepth 100000 in
theorem rNextV_1 (g : Int) (w : World) : Calls Try.prog 13 #[.int .i64 1, .int .i64 g] w fun e w' => e = .returned (.tuple #[.int .i64 (Nx.nV 1 g), .int .i64 (Nx.nEr 1 g)]) ∧ Below w.heap.size w w' := by
  go_enter Try.func13, Try.ntmps13
  go_wp2_with fail
  refine (Rf.rGroups_1 _).mono ?_
  rintro e w1 ⟨gg, rfl, h1, h2, hA, b1⟩
  have HA := Lib.hid hA
  have HB := Lib.hid b1
  clear hA b1 h1
  by_cases h0 : g = 0
  · have k0 : (g == 0) = true := by simp [h0]
    have E : Hid (Nx.nEr 1 g = 0) := Lib.hid (by unfold Nx.nEr; rw [if_pos (by decide), if_pos (.inl h0)])
    have E2 : Hid (Nx.nV 1 g = 1) := Lib.hid (by subst h0; rfl)
    clear h0
    go_wp2_with fail
    go_ret2
    exact ⟨by rw [E.out, E2.out]; rfl, HB.out⟩
  · have k0 : (g == 0) = false := by simp [h0]
    have H0 := Lib.hid h0
    clear h0
    go_wp2_with fail
    go_loopw [8] (fun i wr => ∃ k : Nat, k ≤ 12 ∧ i = .int .i64 k ∧ (Hid (∀ j, j < k → g ≠ grF 1 j)) ∧ wr = w1) (fun i _ => 12 - (intOf i).toNat)
    case atStart => exact ⟨0, by omega, rfl, Lib.hid (fun j hj => by omega), rfl⟩
    case round =>
      obtain ⟨k, hk, rfl, hN, rfl⟩ := hrel
      by_cases hkM : k < 12
      · have ck := (HA.out k hkM).1
        have kb : (0 : Int) ≤ (k : Int) ∧ (k : Int) < 12 := by omega
        have dk : decide ((k : Int) < 12) = true := by simp; omega
        obtain ⟨A, hAe⟩ : ∃ A, grF 1 k = A := ⟨_, rfl⟩
        rw [hAe] at ck
        have HE := Lib.hid hAe
        clear hAe
        by_cases hq : A = g
        · have NV := Lib.hid (nv_hit 1 g (by decide) k hkM (hq.symm.trans HE.out.symm))
          have E : Hid (Nx.nEr 1 g = 0) := Lib.hid (by unfold Nx.nEr; rw [if_pos (by decide), if_pos (.inr (by unfold inG; rw [decide_eq_true_eq]; exact ixF_yes (hq.symm.trans HE.out.symm) _ hkM))])
          have t1 : (A == g) = true := by simp [hq]
          clear hq
          by_cases hl : k = 11
          · have t2 : ((k : Int) == 11) = true := by simp [hl]
            have E2 : Hid (Nx.nV 1 g = 0) := Lib.hid (by rw [NV.out, if_pos (by rw [hl]; rfl)])
            clear hl NV
            go_wp2_with fail
            go_ret2
            exact ⟨by rw [E.out, E2.out]; rfl, HB.out⟩
          · have t2 : ((k : Int) == 11) = false := by simp; omega
            have ck2 := (HA.out (k + 1) (by omega)).1
            obtain ⟨B, hBe⟩ : ∃ B, grF 1 (k + 1) = B := ⟨_, rfl⟩
            rw [hBe] at ck2
            have E2 : Hid (Nx.nV 1 g = B) := Lib.hid (by rw [NV.out, if_neg (by show ¬ k + 1 = 12; omega), hBe])
            have kb2 : (k : Int) + 1 < 12 := by omega
            clear hl hBe NV
            go_wp2_with fail
            go_ret2
            exact ⟨by rw [E.out, E2.out]; rfl, HB.out⟩
        · have t1 : (A == g) = false := by simp [hq]
          have HQ := Lib.hid hq
          clear hq
          go_wp2_with fail
          go_roundw
          case rel =>
            refine ⟨k + 1, by omega, by go_num, Lib.hid (fun j hj => ?_), by trivial⟩
            by_cases e : j = k
            · subst e; rw [HE.out]; exact fun h => HQ.out h.symm
            · exact hN.out j (by omega)
          case measure => simp [intOf]; omega
      · have dk : decide ((k : Int) < 12) = false := by simp; omega
        have hno : inG 1 g = false := by
          unfold inG
          rw [ixF_no (f := grF 1) (x := g) (grN 1) (fun j hj => hN.out j (Nat.lt_of_lt_of_le hj (by show 12 ≤ k; omega)))]
          decide
        have E : Hid (Nx.nEr 1 g = 8) := Lib.hid (by unfold Nx.nEr; rw [if_pos (by decide), if_neg (fun h => h.elim H0.out (by rw [hno]; decide))])
        have E2 := Lib.hid (nv_no 1 g H0.out hno)
        have hk' : (12 : Int) ≤ (k : Int) := by omega
        clear hno
        go_wp2_with fail
        go_ret2
        exact ⟨by rw [E.out, E2.out]; rfl, HB.out⟩
theorem rNextV_any (n g : Int) (w : World) : Calls Try.prog 13 #[.int .i64 n, .int .i64 g] w fun e w' => e = .returned (.tuple #[.int .i64 (Nx.nV n g), .int .i64 (Nx.nEr n g)]) ∧ Below w.heap.size w w' := by
  by_cases h : n = 0 ∨ n = 1
  · rcases h with rfl | rfl
    · exact rNextV_0 g w
    · exact rNextV_1 g w
  · have FE : Hid (fE n = 3) := Lib.hid (by unfold fE; rw [if_neg h])
    have E1 : Hid (Nx.nEr n g = 3) := Lib.hid (by unfold Nx.nEr; rw [if_neg h])
    have E2 : Hid (Nx.nV n g = 0) := Lib.hid (by unfold Nx.nV; rw [if_neg h])
    clear h
    go_enter Try.func13, Try.ntmps13
    go_wp2_with fail
    refine (rGroups_any n _).mono ?_
    rintro e w1 ⟨v, rfl, hR, b1⟩
    rw [FE.out]
    have HB := Lib.hid b1
    clear hR b1
    go_wp2_with fail
    go_ret2
    exact ⟨by rw [E1.out, E2.out]; rfl, HB.out⟩
set_option maxRecDepth 100000 in
set_option maxHeartbeats 1000000 in
theorem FrameTells_any (n g : Int) (w : World) (_ : (Lit.int .i64 n).wf = true) (_ : (Lit.int .i64 g).wf = true) : Calls Try.prog 3 #[.int .i64 n, .int .i64 g] w fun e w' => e = .returned (.bool true) ∧ Below w.heap.size w w' := by
  obtain ⟨W, hW⟩ : ∃ x, wV n = x := ⟨_, rfl⟩
  obtain ⟨H, hH⟩ : ∃ x, hV n = x := ⟨_, rfl⟩
  obtain ⟨Z, hZ⟩ : ∃ x, zV n = x := ⟨_, rfl⟩
  obtain ⟨E, hE⟩ : ∃ x, fE n = x := ⟨_, rfl⟩
  obtain ⟨X, hX⟩ : ∃ x, Nx.nV n g = x := ⟨_, rfl⟩
  obtain ⟨O, hO⟩ : ∃ x, Nx.nEr n g = x := ⟨_, rfl⟩
  obtain ⟨M, hM⟩ : ∃ x, grN n = x := ⟨_, rfl⟩
  have M12 : M ≤ 12 := by rw [← hM]; unfold grN; split <;> (try split) <;> omega
  have C1 : ∀ v, Calls Try.prog 8 #[.int .i64 n] v fun e w' => e = .returned (.tuple #[.int .i64 W, .int .i64 H, .int .i64 Z, .int .i64 E]) ∧ v = w' := fun v => by rw [← hW, ← hH, ← hZ, ← hE]; exact Size_any n v
  have C2 : ∀ v, Calls Try.prog 9 #[.int .i64 n] v fun e w' => e = .returned (.tuple #[.int .i64 W, .int .i64 H, .int .i64 Z, .int .i64 E]) ∧ v = w' := fun v => by rw [← hW, ← hH, ← hZ, ← hE]; exact Rf.rSize_any n v
  have C3 : ∀ w, Calls Try.prog 10 #[.int .i64 n] w fun e w' => ∃ v, e = .returned (.tuple #[v, .int .i64 E]) ∧ Res .i64 w.heap.size w' v M (grF n) ∧ Below w.heap.size w w' := fun v => by rw [← hM, ← hE]; exact Groups_any n v
  have C4 : ∀ w, Calls Try.prog 11 #[.int .i64 n] w fun e w' => ∃ v, e = .returned (.tuple #[v, .int .i64 E]) ∧ Res .i64 w.heap.size w' v M (grF n) ∧ Below w.heap.size w w' := fun v => by rw [← hM, ← hE]; exact rGroups_any n v
  have C5 : ∀ w, Calls Try.prog 12 #[.int .i64 n, .int .i64 g] w fun e w' => e = .returned (.tuple #[.int .i64 X, .int .i64 O]) ∧ Below w.heap.size w w' := fun v => by rw [← hX, ← hO]; exact Nx.Next_any n g v
  have C6 : ∀ w, Calls Try.prog 13 #[.int .i64 n, .int .i64 g] w fun e w' => e = .returned (.tuple #[.int .i64 X, .int .i64 O]) ∧ Below w.heap.size w w' := fun v => by rw [← hX, ← hO]; exact rNextV_any n g v
  clear hW hH hZ hE hX hO hM
  go_enter Try.func3, Try.ntmps3
  go_wp2_with fail
  refine (C1 _).mono ?_
  rintro e w1 ⟨rfl, rfl⟩
  go_wp2_with fail
  refine (C2 _).mono ?_
  rintro e w1 ⟨rfl, rfl⟩
  go_wp2_with fail
  refine (C3 _).mono ?_
  rintro e w1 ⟨v1, rfl, hR1, b1⟩
  have R1 := Lib.hid hR1
  have HB := Lib.hid b1
  have O1 := Lib.hid hR1.own
  clear hR1 b1
  go_wp2_with fail
  refine (C4 _).mono ?_
  rintro e w2 ⟨v2, rfl, hR2, b2⟩
  have R1 := Lib.hid (R1.out.below b2)
  have R2 := Lib.hid hR2
  have O2 := Lib.hid hR2.own
  have HB := Lib.hid (chain HB.out b2)
  have s2 := b2.size
  have O1 : Hid (∀ k, v1.ownBlock = some k → w.heap.size ≤ k ∧ k < w1.heap.size) := O1
  clear hR2 b2
  go_wp2_with fail
  refine (C5 _).mono ?_
  rintro e w3 ⟨rfl, b3⟩
  have R1 := Lib.hid (R1.out.below b3)
  have R2 := Lib.hid (R2.out.below b3)
  have HB := Lib.hid (chain HB.out b3)
  have s3 := b3.size
  clear b3
  go_wp2_with fail
  refine (C6 _).mono ?_
  rintro e w4 ⟨rfl, b4⟩
  have R1 := Lib.hid (R1.out.below b4)
  have R2 := Lib.hid (R2.out.below b4)
  have HB := Lib.hid (chain HB.out b4)
  have s4 := b4.size
  clear b4
  go_wp2_with fail
  refine (SameInts_true _ _ M (grF n) (grF n) _ (by omega) R1.out.sl R2.out.sl (fun _ _ => rfl)).mono ?_
  rintro e w5 ⟨rfl, b5⟩
  have R1 := Lib.hid (R1.out.below b5)
  have R2 := Lib.hid (R2.out.below b5)
  have HB := Lib.hid (chain HB.out b5)
  have s5 := b5.size
  clear b5
  go_wp2_with fail
  refine (OverInts_any _ M _ (grF n) _ (by omega) R1.out).mono ?_
  rintro e w6 ⟨rfl, g6⟩
  have R2 := Lib.hid (Res.grown R2.out g6 (fun k h1 h2 => by have := O1.out k h1; have := O2.out k h2; omega))
  have HB := Lib.hid (HB.out.grown g6 HB.out.size (fun k hk => (O1.out k hk).1))
  clear g6 R1
  go_wp2_with fail
  refine (C3 _).mono ?_
  rintro e w7 ⟨v7, rfl, hR7, b7⟩
  have R7 := Lib.hid hR7
  have R2 := Lib.hid (R2.out.below b7)
  have HB := Lib.hid (chain HB.out b7)
  clear hR7 b7
  go_wp2_with fail
  refine (SameInts_true _ _ M (grF n) (grF n) _ (by omega) R7.out.sl R2.out.sl (fun _ _ => rfl)).mono ?_
  rintro e w8 ⟨rfl, b8⟩
  have HB := Lib.hid (chain HB.out b8)
  clear b8 R2 R7
  go_wp2_with fail
  refine (awake_any _).mono ?_
  rintro e w9 ⟨rfl, b9⟩
  have HB := Lib.hid (chain HB.out b9)
  clear b9
  go_wp2_with fail
  go_ret
  exact ⟨rfl, HB.out⟩
theorem ing_of (n : Int) (q : Nat) (h : q < grN n) : inG n (grF n q) = true := by unfold inG; rw [decide_eq_true_eq]; exact ixF_yes rfl _ h
theorem cE_ok (n g a : Int) (hn : n = 0 ∨ n = 1) (hg : inG n g = true) (ha : 1 ≤ a ∧ a ≤ 33) : cE n g a = 0 := by unfold cE; rw [if_pos hn, if_pos hg, if_neg (by omega)]
theorem cXY_row (n g a : Int) (hn : n = 0 ∨ n = 1) (hg : inG n g = true) (ha : 1 ≤ a ∧ a ≤ 33) : cX n g a = cX n g 1 + (a - 1) % 11 * 16 ∧ cY n g a = cY n g 1 + (a - 1) / 11 * 16 ∧ cX n g 1 % 176 = 0 ∧ cY n g 1 % 48 = 0 := by
  unfold cX cY
  rw [cE_ok n g a hn hg ha, cE_ok n g 1 hn hg (by omega), if_pos rfl, if_pos rfl, if_pos rfl, if_pos rfl]
  rcases hn with rfl | rfl
  · rw [if_neg (by decide)]; omega
  · rw [if_pos rfl]; omega
theorem pl_row (n g a k : Int) (hn : n = 0 ∨ n = 1) (hg : inG n g = true) (ha : 1 ≤ a ∧ a ≤ 33) (hk : 1 ≤ k ∧ k ≤ 6) : Pt.pA n g a k = Pt.bA n (cX n g a) (cY n g a) k ∧ Pt.pS n g a k = Pt.bS n k ∧ Pt.pE n g a k = 0 := by
  have hE : Pt.pE n g a k = 0 := by unfold Pt.pE; rw [if_neg (by rw [cE_ok n g a hn hg ha]; decide), if_neg (by omega)]
  exact ⟨by unfold Pt.pA; rw [if_pos hE], by unfold Pt.pS; rw [if_pos hE], hE⟩
set_option maxRecDepth 100000 in
set_option maxHeartbeats 1000000 in
theorem FrameRows_0 (a0 a1 a2 : Int) (w : World) (h0 : a0 % 2 = 0) : Calls Try.prog 7 #[.int .i64 a0, .int .i64 a1, .int .i64 a2] w fun e w' => e = .returned (.bool true) ∧ Below w.heap.size w w' := by
  obtain ⟨a, ha⟩ : ∃ a, 1 + a2 % 33 = a := ⟨_, rfl⟩
  have ab : 1 ≤ a ∧ a ≤ 33 := by omega
  have H0 := Lib.hid h0
  have HAe := Lib.hid ha
  clear h0 ha
  go_enter Try.func7, Try.ntmps7
  go_wp2_with fail
  refine (FrameKnown_any _).mono ?_
  rintro e w1 ⟨rfl, b1⟩
  have HB := Lib.hid b1
  clear b1
  go_wp2_with fail
  refine (Pick_any a0 2 _ (by omega) (by omega)).mono ?_
  rintro e w2 ⟨rfl, rfl⟩
  rw [H0.out]
  go_wp2_with fail
  refine (Pick_any a2 33 _ (by omega) (by omega)).mono ?_
  rintro e w2 ⟨rfl, rfl⟩
  obtain ⟨q2, hq2⟩ : ∃ q, a2 % 33 = q := ⟨_, rfl⟩
  rw [hq2]
  have e2 : 1 + q2 = a := by rw [← hq2]; exact HAe.out
  have bq2 : 0 ≤ q2 ∧ q2 < 33 := by omega
  clear hq2
  go_wp2_with fail
  refine (Groups_any 0 _).mono ?_
  rintro e w2 ⟨v, rfl, hR, b2⟩
  rw [show fE 0 = 0 from rfl]
  rcases hR with ⟨h0, _⟩ | ⟨gg, c, rfl, h1, h2, h3, h4, hA⟩
  · exact absurd h0 (by decide)
  have HA := Lib.hid (show Arr w2 .i64 gg 3 (grF 0) from hA)
  have HB := Lib.hid (chain HB.out b2)
  rw [show grN 0 = 3 from rfl]
  clear hA b2 h1 h3 h4
  go_wp2_with fail
  refine (Pick_any a1 3 _ (by omega) (by omega)).mono ?_
  rintro e w3 ⟨rfl, rfl⟩
  obtain ⟨q, hq⟩ : ∃ q : Nat, a1 % 3 = (q : Int) := ⟨(a1 % 3).toNat, by have := Int.emod_nonneg a1 (show (3 : Int) ≠ 0 by omega); omega⟩
  have qN : q < 3 := by have := Int.emod_lt_of_pos a1 (show (0 : Int) < 3 by omega); omega
  rw [hq]
  have qb : (0 : Int) ≤ (q : Int) ∧ (q : Int) < 3 := by omega
  have cq := (HA.out q qN).1
  have hG := ing_of 0 q qN
  obtain ⟨G, hGe⟩ : ∃ G, grF 0 q = G := ⟨_, rfl⟩
  rw [hGe] at cq hG
  obtain ⟨X1, hX1⟩ : ∃ x, cX 0 G 1 = x := ⟨_, rfl⟩
  obtain ⟨Y1, hY1⟩ : ∃ x, cY 0 G 1 = x := ⟨_, rfl⟩
  obtain ⟨X, hX⟩ : ∃ x, cX 0 G a = x := ⟨_, rfl⟩
  obtain ⟨Y, hY⟩ : ∃ x, cY 0 G a = x := ⟨_, rfl⟩
  have r0 := cXY_row 0 G a (by decide) hG ab
  rw [hX1, hY1, hX, hY] at r0
  obtain ⟨eX, eY, m1, m2⟩ := r0
  have bX := Pt.cX_bd 0 G a (cE_ok 0 G a (by decide) hG ab)
  have bY := Pt.cY_bd 0 G a (cE_ok 0 G a (by decide) hG ab)
  have bX1 := Pt.cX_bd 0 G 1 (cE_ok 0 G 1 (by decide) hG (by decide))
  have bY1 := Pt.cY_bd 0 G 1 (cE_ok 0 G 1 (by decide) hG (by decide))
  rw [hX, show wV 0 = 176 from rfl] at bX
  rw [hY, show hV 0 = 144 from rfl] at bY
  rw [hX1, show wV 0 = 176 from rfl] at bX1
  rw [hY1, show hV 0 = 144 from rfl] at bY1
  have PL := Lib.hid (fun k hk => pl_row 0 G a k (by decide) hG ab hk)
  rw [hX, hY] at PL
  have E1 := Lib.hid (cE_ok 0 G 1 (by decide) hG (by decide))
  have Ea := Lib.hid (cE_ok 0 G a (by decide) hG ab)
  have HX1 := Lib.hid hX1
  have HY1 := Lib.hid hY1
  have HX := Lib.hid hX
  have HY := Lib.hid hY
  have EX := Lib.hid eX
  have EY := Lib.hid eY
  have P1 : Hid (Pt.pA 0 G a 1 = Y * 176 + X ∧ Pt.pS 0 G a 1 = 176 ∧ Pt.pE 0 G a 1 = 0) := Lib.hid (by obtain ⟨p1, p2, p3⟩ := PL.out 1 (by decide); rw [p1, p2, p3]; unfold Pt.bA Pt.bS; rw [show wV 0 = 176 from rfl, show hV 0 = 144 from rfl]; simp only [Int.reduceLE, ↓reduceIte]; refine ⟨?_, by trivial⟩; omega)
  have P2 : Hid (Pt.pA 0 G a 2 = Y * 176 + X + 8 ∧ Pt.pS 0 G a 2 = 176 ∧ Pt.pE 0 G a 2 = 0) := Lib.hid (by obtain ⟨p1, p2, p3⟩ := PL.out 2 (by decide); rw [p1, p2, p3]; unfold Pt.bA Pt.bS; rw [show wV 0 = 176 from rfl, show hV 0 = 144 from rfl]; simp only [Int.reduceLE, ↓reduceIte]; refine ⟨?_, by trivial⟩; omega)
  have P3 : Hid (Pt.pA 0 G a 3 = Y * 176 + X + 8 * 176 ∧ Pt.pS 0 G a 3 = 176 ∧ Pt.pE 0 G a 3 = 0) := Lib.hid (by obtain ⟨p1, p2, p3⟩ := PL.out 3 (by decide); rw [p1, p2, p3]; unfold Pt.bA Pt.bS; rw [show wV 0 = 176 from rfl, show hV 0 = 144 from rfl]; simp only [Int.reduceLE, ↓reduceIte]; refine ⟨?_, by trivial⟩; omega)
  have P4 : Hid (Pt.pA 0 G a 4 = Y * 176 + X + 8 * 176 + 8 ∧ Pt.pS 0 G a 4 = 176 ∧ Pt.pE 0 G a 4 = 0) := Lib.hid (by obtain ⟨p1, p2, p3⟩ := PL.out 4 (by decide); rw [p1, p2, p3]; unfold Pt.bA Pt.bS; rw [show wV 0 = 176 from rfl, show hV 0 = 144 from rfl]; simp only [Int.reduceLE, ↓reduceIte]; refine ⟨?_, by trivial⟩; omega)
  have P5 : Hid (Pt.pA 0 G a 5 = 25344 + (Y / 2 * 88 + X / 2) ∧ Pt.pS 0 G a 5 = 88 ∧ Pt.pE 0 G a 5 = 0) := Lib.hid (by obtain ⟨p1, p2, p3⟩ := PL.out 5 (by decide); rw [p1, p2, p3]; unfold Pt.bA Pt.bS; rw [show wV 0 = 176 from rfl, show hV 0 = 144 from rfl]; simp only [Int.reduceLE, ↓reduceIte]; refine ⟨?_, by trivial⟩; omega)
  have P6 : Hid (Pt.pA 0 G a 6 = 25344 + 6336 + (Y / 2 * 88 + X / 2) ∧ Pt.pS 0 G a 6 = 88 ∧ Pt.pE 0 G a 6 = 0) := Lib.hid (by obtain ⟨p1, p2, p3⟩ := PL.out 6 (by decide); rw [p1, p2, p3]; unfold Pt.bA Pt.bS; rw [show wV 0 = 176 from rfl, show hV 0 = 144 from rfl]; simp only [Int.reduceLE, ↓reduceIte]; refine ⟨?_, by trivial⟩; omega)
  have r1 : (a - 1).tmod 11 = (a - 1) % 11 := Int.tmod_eq_emod_of_nonneg (by omega)
  have r2 : (a - 1).tdiv 11 = (a - 1) / 11 := Int.tdiv_eq_ediv_of_nonneg (by omega)
  have r3 : X1.tmod 176 = 0 := by rw [Int.tmod_eq_emod_of_nonneg (by omega)]; exact m1
  have r4 : Y1.tmod 48 = 0 := by rw [Int.tmod_eq_emod_of_nonneg (by omega)]; exact m2
  have r5 : X.tdiv 2 = X / 2 := Int.tdiv_eq_ediv_of_nonneg (by omega)
  have r6 : Y.tdiv 2 = Y / 2 := Int.tdiv_eq_ediv_of_nonneg (by omega)
  clear hq hGe hX1 hY1 hX hY eX eY m1 m2 hG PL
  go_wp2_with fail
  refine (Corner_any 0 G 1 _).mono ?_
  rintro e w4 ⟨rfl, b4⟩
  rw [HX1.out, HY1.out, E1.out]
  have HB := Lib.hid (chain HB.out b4)
  clear b4 cq
  go_wp2_with fail
  refine (Size_any 0 _).mono ?_
  rintro e w5 ⟨rfl, rfl⟩
  rw [show wV 0 = 176 from rfl, show hV 0 = 144 from rfl, show fE 0 = 0 from rfl]
  go_wp2_with fail
  refine (corner_lit 0 G a _ _ _ _ ⟨by rw [HX.out]; exact EX.out, by rw [HY.out]; exact EY.out, Ea.out⟩).mono ?_
  rintro e w6 ⟨rfl, b6⟩
  have HB := Lib.hid (chain HB.out b6)
  have eX := EX.out.symm
  have eY := EY.out.symm
  clear b6
  go_wp2_with fail
  refine (place_lit 0 G a 1 _ _ _ _ ⟨P1.out.1.trans (by omega), P1.out.2.1.trans (by omega), P1.out.2.2⟩).mono ?_
  rintro e w7 ⟨rfl, b7⟩
  have HB := Lib.hid (chain HB.out b7)
  clear b7
  go_wp2_with fail
  refine (place_lit 0 G a 2 _ _ _ _ ⟨P2.out.1.trans (by omega), P2.out.2.1.trans (by omega), P2.out.2.2⟩).mono ?_
  rintro e w8 ⟨rfl, b8⟩
  have HB := Lib.hid (chain HB.out b8)
  clear b8
  go_wp2_with fail
  refine (place_lit 0 G a 3 _ _ _ _ ⟨P3.out.1.trans (by omega), P3.out.2.1.trans (by omega), P3.out.2.2⟩).mono ?_
  rintro e w9 ⟨rfl, b9⟩
  have HB := Lib.hid (chain HB.out b9)
  clear b9
  go_wp2_with fail
  refine (place_lit 0 G a 4 _ _ _ _ ⟨P4.out.1.trans (by omega), P4.out.2.1.trans (by omega), P4.out.2.2⟩).mono ?_
  rintro e w10 ⟨rfl, b10⟩
  have HB := Lib.hid (chain HB.out b10)
  clear b10
  go_wp2_with fail
  refine (place_lit 0 G a 5 _ _ _ _ ⟨P5.out.1.trans (by omega), P5.out.2.1.trans (by omega), P5.out.2.2⟩).mono ?_
  rintro e w11 ⟨rfl, b11⟩
  have HB := Lib.hid (chain HB.out b11)
  clear b11
  go_wp2_with fail
  refine (place_lit 0 G a 6 _ _ _ _ ⟨P6.out.1.trans (by omega), P6.out.2.1.trans (by omega), P6.out.2.2⟩).mono ?_
  rintro e w12 ⟨rfl, b12⟩
  have HB := Lib.hid (chain HB.out b12)
  clear b12
  go_wp2_with fail
  go_ret
  exact ⟨rfl, HB.out⟩
set_option maxRecDepth 100000 in
set_option maxHeartbeats 1000000 in
theorem FrameRows_1 (a0 a1 a2 : Int) (w : World) (h0 : a0 % 2 = 1) : Calls Try.prog 7 #[.int .i64 a0, .int .i64 a1, .int .i64 a2] w fun e w' => e = .returned (.bool true) ∧ Below w.heap.size w w' := by
  obtain ⟨a, ha⟩ : ∃ a, 1 + a2 % 33 = a := ⟨_, rfl⟩
  have ab : 1 ≤ a ∧ a ≤ 33 := by omega
  have H0 := Lib.hid h0
  have HAe := Lib.hid ha
  clear h0 ha
  go_enter Try.func7, Try.ntmps7
  go_wp2_with fail
  refine (FrameKnown_any _).mono ?_
  rintro e w1 ⟨rfl, b1⟩
  have HB := Lib.hid b1
  clear b1
  go_wp2_with fail
  refine (Pick_any a0 2 _ (by omega) (by omega)).mono ?_
  rintro e w2 ⟨rfl, rfl⟩
  rw [H0.out]
  go_wp2_with fail
  refine (Pick_any a2 33 _ (by omega) (by omega)).mono ?_
  rintro e w2 ⟨rfl, rfl⟩
  obtain ⟨q2, hq2⟩ : ∃ q, a2 % 33 = q := ⟨_, rfl⟩
  rw [hq2]
  have e2 : 1 + q2 = a := by rw [← hq2]; exact HAe.out
  have bq2 : 0 ≤ q2 ∧ q2 < 33 := by omega
  clear hq2
  go_wp2_with fail
  refine (Groups_any 1 _).mono ?_
  rintro e w2 ⟨v, rfl, hR, b2⟩
  rw [show fE 1 = 0 from rfl]
  rcases hR with ⟨h0, _⟩ | ⟨gg, c, rfl, h1, h2, h3, h4, hA⟩
  · exact absurd h0 (by decide)
  have HA := Lib.hid (show Arr w2 .i64 gg 12 (grF 1) from hA)
  have HB := Lib.hid (chain HB.out b2)
  rw [show grN 1 = 12 from rfl]
  clear hA b2 h1 h3 h4
  go_wp2_with fail
  refine (Pick_any a1 12 _ (by omega) (by omega)).mono ?_
  rintro e w3 ⟨rfl, rfl⟩
  obtain ⟨q, hq⟩ : ∃ q : Nat, a1 % 12 = (q : Int) := ⟨(a1 % 12).toNat, by have := Int.emod_nonneg a1 (show (12 : Int) ≠ 0 by omega); omega⟩
  have qN : q < 12 := by have := Int.emod_lt_of_pos a1 (show (0 : Int) < 12 by omega); omega
  rw [hq]
  have qb : (0 : Int) ≤ (q : Int) ∧ (q : Int) < 12 := by omega
  have cq := (HA.out q qN).1
  have hG := ing_of 1 q qN
  obtain ⟨G, hGe⟩ : ∃ G, grF 1 q = G := ⟨_, rfl⟩
  rw [hGe] at cq hG
  obtain ⟨X1, hX1⟩ : ∃ x, cX 1 G 1 = x := ⟨_, rfl⟩
  obtain ⟨Y1, hY1⟩ : ∃ x, cY 1 G 1 = x := ⟨_, rfl⟩
  obtain ⟨X, hX⟩ : ∃ x, cX 1 G a = x := ⟨_, rfl⟩
  obtain ⟨Y, hY⟩ : ∃ x, cY 1 G a = x := ⟨_, rfl⟩
  have r0 := cXY_row 1 G a (by decide) hG ab
  rw [hX1, hY1, hX, hY] at r0
  obtain ⟨eX, eY, m1, m2⟩ := r0
  have bX := Pt.cX_bd 1 G a (cE_ok 1 G a (by decide) hG ab)
  have bY := Pt.cY_bd 1 G a (cE_ok 1 G a (by decide) hG ab)
  have bX1 := Pt.cX_bd 1 G 1 (cE_ok 1 G 1 (by decide) hG (by decide))
  have bY1 := Pt.cY_bd 1 G 1 (cE_ok 1 G 1 (by decide) hG (by decide))
  rw [hX, show wV 1 = 352 from rfl] at bX
  rw [hY, show hV 1 = 288 from rfl] at bY
  rw [hX1, show wV 1 = 352 from rfl] at bX1
  rw [hY1, show hV 1 = 288 from rfl] at bY1
  have PL := Lib.hid (fun k hk => pl_row 1 G a k (by decide) hG ab hk)
  rw [hX, hY] at PL
  have E1 := Lib.hid (cE_ok 1 G 1 (by decide) hG (by decide))
  have Ea := Lib.hid (cE_ok 1 G a (by decide) hG ab)
  have HX1 := Lib.hid hX1
  have HY1 := Lib.hid hY1
  have HX := Lib.hid hX
  have HY := Lib.hid hY
  have EX := Lib.hid eX
  have EY := Lib.hid eY
  have P1 : Hid (Pt.pA 1 G a 1 = Y * 352 + X ∧ Pt.pS 1 G a 1 = 352 ∧ Pt.pE 1 G a 1 = 0) := Lib.hid (by obtain ⟨p1, p2, p3⟩ := PL.out 1 (by decide); rw [p1, p2, p3]; unfold Pt.bA Pt.bS; rw [show wV 1 = 352 from rfl, show hV 1 = 288 from rfl]; simp only [Int.reduceLE, ↓reduceIte]; refine ⟨?_, by trivial⟩; omega)
  have P2 : Hid (Pt.pA 1 G a 2 = Y * 352 + X + 8 ∧ Pt.pS 1 G a 2 = 352 ∧ Pt.pE 1 G a 2 = 0) := Lib.hid (by obtain ⟨p1, p2, p3⟩ := PL.out 2 (by decide); rw [p1, p2, p3]; unfold Pt.bA Pt.bS; rw [show wV 1 = 352 from rfl, show hV 1 = 288 from rfl]; simp only [Int.reduceLE, ↓reduceIte]; refine ⟨?_, by trivial⟩; omega)
  have P3 : Hid (Pt.pA 1 G a 3 = Y * 352 + X + 8 * 352 ∧ Pt.pS 1 G a 3 = 352 ∧ Pt.pE 1 G a 3 = 0) := Lib.hid (by obtain ⟨p1, p2, p3⟩ := PL.out 3 (by decide); rw [p1, p2, p3]; unfold Pt.bA Pt.bS; rw [show wV 1 = 352 from rfl, show hV 1 = 288 from rfl]; simp only [Int.reduceLE, ↓reduceIte]; refine ⟨?_, by trivial⟩; omega)
  have P4 : Hid (Pt.pA 1 G a 4 = Y * 352 + X + 8 * 352 + 8 ∧ Pt.pS 1 G a 4 = 352 ∧ Pt.pE 1 G a 4 = 0) := Lib.hid (by obtain ⟨p1, p2, p3⟩ := PL.out 4 (by decide); rw [p1, p2, p3]; unfold Pt.bA Pt.bS; rw [show wV 1 = 352 from rfl, show hV 1 = 288 from rfl]; simp only [Int.reduceLE, ↓reduceIte]; refine ⟨?_, by trivial⟩; omega)
  have P5 : Hid (Pt.pA 1 G a 5 = 101376 + (Y / 2 * 176 + X / 2) ∧ Pt.pS 1 G a 5 = 176 ∧ Pt.pE 1 G a 5 = 0) := Lib.hid (by obtain ⟨p1, p2, p3⟩ := PL.out 5 (by decide); rw [p1, p2, p3]; unfold Pt.bA Pt.bS; rw [show wV 1 = 352 from rfl, show hV 1 = 288 from rfl]; simp only [Int.reduceLE, ↓reduceIte]; refine ⟨?_, by trivial⟩; omega)
  have P6 : Hid (Pt.pA 1 G a 6 = 101376 + 25344 + (Y / 2 * 176 + X / 2) ∧ Pt.pS 1 G a 6 = 176 ∧ Pt.pE 1 G a 6 = 0) := Lib.hid (by obtain ⟨p1, p2, p3⟩ := PL.out 6 (by decide); rw [p1, p2, p3]; unfold Pt.bA Pt.bS; rw [show wV 1 = 352 from rfl, show hV 1 = 288 from rfl]; simp only [Int.reduceLE, ↓reduceIte]; refine ⟨?_, by trivial⟩; omega)
  have r1 : (a - 1).tmod 11 = (a - 1) % 11 := Int.tmod_eq_emod_of_nonneg (by omega)
  have r2 : (a - 1).tdiv 11 = (a - 1) / 11 := Int.tdiv_eq_ediv_of_nonneg (by omega)
  have r3 : X1.tmod 176 = 0 := by rw [Int.tmod_eq_emod_of_nonneg (by omega)]; exact m1
  have r4 : Y1.tmod 48 = 0 := by rw [Int.tmod_eq_emod_of_nonneg (by omega)]; exact m2
  have r5 : X.tdiv 2 = X / 2 := Int.tdiv_eq_ediv_of_nonneg (by omega)
  have r6 : Y.tdiv 2 = Y / 2 := Int.tdiv_eq_ediv_of_nonneg (by omega)
  clear hq hGe hX1 hY1 hX hY eX eY m1 m2 hG PL
  go_wp2_with fail
  refine (Corner_any 1 G 1 _).mono ?_
  rintro e w4 ⟨rfl, b4⟩
  rw [HX1.out, HY1.out, E1.out]
  have HB := Lib.hid (chain HB.out b4)
  clear b4 cq
  go_wp2_with fail
  refine (Size_any 1 _).mono ?_
  rintro e w5 ⟨rfl, rfl⟩
  rw [show wV 1 = 352 from rfl, show hV 1 = 288 from rfl, show fE 1 = 0 from rfl]
  go_wp2_with fail
  refine (corner_lit 1 G a _ _ _ _ ⟨by rw [HX.out]; exact EX.out, by rw [HY.out]; exact EY.out, Ea.out⟩).mono ?_
  rintro e w6 ⟨rfl, b6⟩
  have HB := Lib.hid (chain HB.out b6)
  have eX := EX.out.symm
  have eY := EY.out.symm
  clear b6
  go_wp2_with fail
  refine (place_lit 1 G a 1 _ _ _ _ ⟨P1.out.1.trans (by omega), P1.out.2.1.trans (by omega), P1.out.2.2⟩).mono ?_
  rintro e w7 ⟨rfl, b7⟩
  have HB := Lib.hid (chain HB.out b7)
  clear b7
  go_wp2_with fail
  refine (place_lit 1 G a 2 _ _ _ _ ⟨P2.out.1.trans (by omega), P2.out.2.1.trans (by omega), P2.out.2.2⟩).mono ?_
  rintro e w8 ⟨rfl, b8⟩
  have HB := Lib.hid (chain HB.out b8)
  clear b8
  go_wp2_with fail
  refine (place_lit 1 G a 3 _ _ _ _ ⟨P3.out.1.trans (by omega), P3.out.2.1.trans (by omega), P3.out.2.2⟩).mono ?_
  rintro e w9 ⟨rfl, b9⟩
  have HB := Lib.hid (chain HB.out b9)
  clear b9
  go_wp2_with fail
  refine (place_lit 1 G a 4 _ _ _ _ ⟨P4.out.1.trans (by omega), P4.out.2.1.trans (by omega), P4.out.2.2⟩).mono ?_
  rintro e w10 ⟨rfl, b10⟩
  have HB := Lib.hid (chain HB.out b10)
  clear b10
  go_wp2_with fail
  refine (place_lit 1 G a 5 _ _ _ _ ⟨P5.out.1.trans (by omega), P5.out.2.1.trans (by omega), P5.out.2.2⟩).mono ?_
  rintro e w11 ⟨rfl, b11⟩
  have HB := Lib.hid (chain HB.out b11)
  clear b11
  go_wp2_with fail
  refine (place_lit 1 G a 6 _ _ _ _ ⟨P6.out.1.trans (by omega), P6.out.2.1.trans (by omega), P6.out.2.2⟩).mono ?_
  rintro e w12 ⟨rfl, b12⟩
  have HB := Lib.hid (chain HB.out b12)
  clear b12
  go_wp2_with fail
  go_ret
  exact ⟨rfl, HB.out⟩
theorem FrameRows_any (a0 a1 a2 : Int) (w : World) (_ : (Lit.int .i64 a0).wf = true) (_ : (Lit.int .i64 a1).wf = true) (_ : (Lit.int .i64 a2).wf = true) : Calls Try.prog 7 #[.int .i64 a0, .int .i64 a1, .int .i64 a2] w fun e w' => e = .returned (.bool true) ∧ Below w.heap.size w w' := by
  rcases (by omega : a0 % 2 = 0 ∨ a0 % 2 = 1) with h | h
  · exact FrameRows_0 a0 a1 a2 w h
  · exact FrameRows_1 a0 a1 a2 w h
end L13
end Go.Proofs.Ytgcmdgolkidemaa
