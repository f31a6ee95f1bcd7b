/- MotionKnown; scenes and spots made by numbers. -/
import Derived.Test.YtkddahboclmboaaMo9
import Derived.Test.YtkddahboclmboaaPick
namespace Go.Proofs.Ytkddahboclmboaa
open Go.RowKit
namespace Mo
open Fr

theorem kn1 : fetE 38016 0 1 2 7 0 0 = 3 ∧ fetE 3 0 1 2 1 0 0 = 2 ∧ vE 0 1 11 1 0 = 12 ∧ vE 0 5 33 0 1 = 12 ∧ vE 0 1 1 16 0 = 3 := by decide +kernel
theorem kn2 : fetE 38016 0 1 13 5 0 (-3) = 0 ∧ ∀ i, i < 8 → fetF chF 0 1 13 5 0 (-3) i = [(7 : Int), 7, 7, 7, 7, 7, 7, 7].getD i 0 := by decide +kernel
set_option maxRecDepth 100000 in
set_option maxHeartbeats 1000000 in
theorem MotionKnown_any (w : World) : Calls Try.prog 5 #[] w fun e w' => e = .returned (.bool true) ∧ Below w.heap.size w w' := by
  have K1 := Lib.hid kn1
  have K2 := Lib.hid kn2
  go_enter Try.func5, Try.ntmps5
  go_wp2_with fail
  refine (chapter_any _).mono ?_
  rintro e w1 ⟨v1, rfl, hR, b1⟩
  have HR := Lib.hid hR
  have HB := Lib.hid b1
  clear hR b1
  go_wp2_with fail
  refine (qcif_any 1 2 _).mono ?_
  rintro e w2 ⟨rfl, b2⟩
  have HR := Lib.hid (HR.out.below b2)
  have HB := Lib.hid (chain HB.out b2)
  clear b2
  go_wp2_with fail
  refine (Fetch_any _ 38016 chF 0 1 2 7 0 0 _ HR.out.sl (wf_small (by decide)) (wf_small (by decide))).mono ?_
  rintro e w3 ⟨v3, rfl, hR, b3⟩
  rw [show ((38016 : Nat) : Int) = 38016 from rfl, K1.out.1]
  have HB := Lib.hid (chain HB.out b3)
  clear hR b3 HR
  go_wp2_with fail
  have S3 := Lib.hid (show Sl .u8 (w3.alloc (.cells #[.int .u8 1, .int .u8 2, .int .u8 3] 5)) (.slice (some ⟨w3.heap.size, 0, none⟩) 3 3) 3 (fun i => [(1 : Int), 2, 3].getD i 0) from ⟨_, 3, rfl, Nat.le_refl _, by decide, .inr ⟨_, 0, rfl, by simp, fun i hi => by
    rw [Nat.zero_add, cell_of_row _ _ i _ 5 (0, 0) (heap_alloc_new w3 _)]
    rcases (by omega : i = 0 ∨ i = 1 ∨ i = 2) with rfl | rfl | rfl <;> rfl⟩⟩)
  have HB := Lib.hid (HB.out.alloc HB.out.size (.cells #[.int .u8 1, .int .u8 2, .int .u8 3] 5))
  refine (qcif_any 1 2 _).mono ?_
  rintro e w4 ⟨rfl, b4⟩
  have S3 := Lib.hid (S3.out.below b4)
  have HB := Lib.hid (chain HB.out b4)
  clear b4
  go_wp2_with fail
  refine (Fetch_any _ 3 _ 0 1 2 1 0 0 _ S3.out (wf_small (by decide)) (wf_small (by decide))).mono ?_
  rintro e w5 ⟨v5, rfl, hR, b5⟩
  rw [show ((3 : Nat) : Int) = 3 from rfl, K1.out.2.1]
  have HB := Lib.hid (chain HB.out b5)
  clear hR b5 S3
  go_wp2_with fail
  refine (Half_all 5 (wf_small (by decide)) _).mono ?_
  rintro e w6 ⟨rfl, rfl⟩
  go_wp2_with fail
  refine (Half_all (-1) (wf_small (by decide)) _).mono ?_
  rintro e w6 ⟨rfl, rfl⟩
  go_wp2_with fail
  refine (qcif_any 1 11 _).mono ?_
  rintro e w6 ⟨rfl, b6⟩
  have HB := Lib.hid (chain HB.out b6)
  clear b6
  go_wp2_with fail
  refine (Fits_any 0 1 11 1 0 _ (wf_small (by decide)) (wf_small (by decide))).mono ?_
  rintro e w7 ⟨rfl, b7⟩
  rw [K1.out.2.2.1]
  have HB := Lib.hid (chain HB.out b7)
  clear b7
  go_wp2_with fail
  refine (qcif_any 5 33 _).mono ?_
  rintro e w8 ⟨rfl, b8⟩
  have HB := Lib.hid (chain HB.out b8)
  clear b8
  go_wp2_with fail
  refine (Fits_any 0 5 33 0 1 _ (wf_small (by decide)) (wf_small (by decide))).mono ?_
  rintro e w9 ⟨rfl, b9⟩
  rw [K1.out.2.2.2.1]
  have HB := Lib.hid (chain HB.out b9)
  clear b9
  go_wp2_with fail
  refine (qcif_any 1 1 _).mono ?_
  rintro e w10 ⟨rfl, b10⟩
  have HB := Lib.hid (chain HB.out b10)
  clear b10
  go_wp2_with fail
  refine (Fits_any 0 1 1 16 0 _ (wf_small (by decide)) (wf_small (by decide))).mono ?_
  rintro e w11 ⟨rfl, b11⟩
  rw [K1.out.2.2.2.2]
  have HB := Lib.hid (chain HB.out b11)
  clear b11
  go_wp2_with fail
  refine (awake_any _).mono ?_
  rintro e w12 ⟨rfl, b12⟩
  have HB := Lib.hid (chain HB.out b12)
  clear b12
  go_wp2_with fail
  refine (qcif_any 1 13 _).mono ?_
  rintro e w13 ⟨rfl, b13⟩
  have HB := Lib.hid (chain HB.out b13)
  clear b13
  go_wp2_with fail
  refine (row_lit 0 1 13 5 0 (-3) [7, 7, 7, 7, 7, 7, 7, 7] _ _ rfl rfl K2.out.1 K2.out.2 (wf_small (by decide)) (wf_small (by decide))).mono ?_
  rintro e w14 ⟨rfl, b14⟩
  have HB := Lib.hid (chain HB.out b14)
  clear b14
  go_wp2_with fail
  go_ret
  exact ⟨rfl, HB.out⟩

def szV (n : Int) : Int := if n = 0 then 38016 else if n = 1 then 152064 else 0
theorem size_any (n : Int) (w : World) : Calls Try.prog 49 #[.int .i64 n] w fun e w' => e = .returned (.int .i64 (szV n)) ∧ w = w' := by
  by_cases h0 : n = 0
  · subst h0
    go_enter Try.func49, Try.ntmps49
    go_wp2
    go_ret
    exact ⟨rfl, rfl⟩
  · by_cases h1 : n = 1
    · subst h1
      go_enter Try.func49, Try.ntmps49
      go_wp2
      go_ret
      exact ⟨rfl, rfl⟩
    · have E : Hid (szV n = 0) := Lib.hid (by unfold szV; rw [if_neg h0, if_neg h1])
      have k0 : (n == 0) = false := by simp [h0]
      have k1 : (n == 1) = false := by simp [h1]
      clear h0 h1
      go_enter Try.func49, Try.ntmps49
      go_wp2
      go_ret
      exact ⟨by rw [E.out]; rfl, rfl⟩
theorem Spot_any (f g a : Int) (w : World) : Calls Try.prog 30 #[.int .i64 f, .int .i64 g, .int .i64 a] w fun e w' => e = .returned (.agg #[.int .i64 (f % 2), .int .i64 (if f % 2 = 0 then 1 + 2 * (g % 3) else 1 + g % 12), .int .i64 (1 + a % 33)]) ∧ Below w.heap.size w w' := by
  have m1 := Int.emod_nonneg f (show (2 : Int) ≠ 0 by omega)
  have m2 := Int.emod_lt_of_pos f (show (0 : Int) < 2 by omega)
  have m3 := Int.emod_nonneg g (show (12 : Int) ≠ 0 by omega)
  have m4 := Int.emod_lt_of_pos g (show (0 : Int) < 12 by omega)
  have m5 := Int.emod_nonneg a (show (33 : Int) ≠ 0 by omega)
  have m6 := Int.emod_lt_of_pos a (show (0 : Int) < 33 by omega)
  have m7 := Int.emod_nonneg g (show (3 : Int) ≠ 0 by omega)
  have m8 := Int.emod_lt_of_pos g (show (0 : Int) < 3 by omega)
  obtain ⟨F, hF⟩ : ∃ F, f % 2 = F := ⟨_, rfl⟩
  obtain ⟨G, hG⟩ : ∃ G, g % 12 = G := ⟨_, rfl⟩
  obtain ⟨H, hH⟩ : ∃ H, g % 3 = H := ⟨_, rfl⟩
  obtain ⟨A, hA⟩ : ∃ A, a % 33 = A := ⟨_, rfl⟩
  rw [hF, hG, hH, hA]
  rw [hF] at m1 m2
  rw [hG] at m3 m4
  rw [hA] at m5 m6
  rw [hH] at m7 m8
  have HF := Lib.hid hF
  have HG := Lib.hid hG
  have HH := Lib.hid hH
  have HA := Lib.hid hA
  clear hF hG hH hA
  by_cases h0 : F = 0
  · rw [if_pos h0]
    have k0 : (F == 0) = true := by simp [h0]
    clear h0
    go_enter Try.func30, Try.ntmps30
    go_wp2_with fail
    refine (Pick_any f 2 _ (by omega) (by omega)).mono ?_
    rintro e w1 ⟨rfl, rfl⟩
    rw [HF.out]
    go_wp2_with fail
    refine (Pick_any g 12 _ (by omega) (by omega)).mono ?_
    rintro e w1 ⟨rfl, rfl⟩
    rw [HG.out]
    go_wp2_with fail
    refine (Pick_any a 33 _ (by omega) (by omega)).mono ?_
    rintro e w1 ⟨rfl, rfl⟩
    rw [HA.out]
    go_wp2_with fail
    refine (Pick_any g 3 _ (by omega) (by omega)).mono ?_
    rintro e w1 ⟨rfl, rfl⟩
    rw [HH.out]
    go_wp2_with fail
    refine bodyPost_ret (results_cell_row rfl _ _ w.heap.size _ _ _ _ rfl ((Below.heap_alloc (w.alloc _) _ w.heap.size (by simp)).trans (heap_alloc_new w _)) Try.underlying23 rfl (by kernel_rfl)) rfl ?_
    exact ⟨rfl, ((Below.refl _ _).alloc (Nat.le_refl _) _).alloc (by simp) _⟩
  · rw [if_neg h0]
    have k0 : (F == 0) = false := by simp [h0]
    clear h0
    go_enter Try.func30, Try.ntmps30
    go_wp2_with fail
    refine (Pick_any f 2 _ (by omega) (by omega)).mono ?_
    rintro e w1 ⟨rfl, rfl⟩
    rw [HF.out]
    go_wp2_with fail
    refine (Pick_any g 12 _ (by omega) (by omega)).mono ?_
    rintro e w1 ⟨rfl, rfl⟩
    rw [HG.out]
    go_wp2_with fail
    refine (Pick_any a 33 _ (by omega) (by omega)).mono ?_
    rintro e w1 ⟨rfl, rfl⟩
    rw [HA.out]
    go_wp2_with fail
    refine bodyPost_ret (results_cell_row rfl _ _ w.heap.size _ _ _ _ rfl ((Below.heap_alloc (w.alloc _) _ w.heap.size (by simp)).trans (heap_alloc_new w _)) Try.underlying23 rfl (by kernel_rfl)) rfl ?_
    exact ⟨rfl, ((Below.refl _ _).alloc (Nat.le_refl _) _).alloc (by simp) _⟩
end Mo
end Go.Proofs.Ytkddahboclmboaa
