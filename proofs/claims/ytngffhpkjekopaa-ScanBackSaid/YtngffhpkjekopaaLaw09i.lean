/- ScanBack. -/
import Derived.Test.YtngffhpkjekopaaPairIn
import Derived.Test.YtngffhpkjekopaaLaw09d
import Derived.Test.YtngffhpkjekopaaLaw09g
import Derived.Test.YtngffhpkjekopaaPick
import Derived.BigRegion
namespace Go.Proofs.Ytngffhpkjekopaa
open Go.RowKit
namespace Sc

/-- the made block, behind the numbers from first on below k. -/
def mkF (first : Nat) (f : Nat → Int) (k : Nat) : Nat → Int := fun i => if first ≤ i ∧ i < k then f i % 255 - 127 else 0
theorem mkF_zero (first : Nat) (f : Nat → Int) : mkF first f first = fun _ => 0 := by
  funext i; unfold mkF; rw [if_neg (by omega)]
theorem mkF_succ {first : Nat} {f : Nat → Int} {k : Nat} (h : first ≤ k) : (fun i => if i = k then f k % 255 - 127 else mkF first f k i) = mkF first f (k + 1) := by
  funext i; unfold mkF
  by_cases e : i = k
  · subst e; rw [if_pos rfl, if_pos (by omega)]
  · rw [if_neg e]
    by_cases c : first ≤ i ∧ i < k
    · rw [if_pos c, if_pos (by omega)]
    · rw [if_neg c, if_neg (by omega)]
theorem mkF_lvl (first : Nat) (f : Nat → Int) (k i : Nat) : lvl (mkF first f k i) = true := by
  unfold mkF
  split
  · have h1 := Int.emod_nonneg (f i) (show (255 : Int) ≠ 0 by omega)
    have h2 := Int.emod_lt_of_pos (f i) (show (0 : Int) < 255 by omega)
    unfold lvl; rw [decide_eq_true_eq]; omega
  · exact lvl_zero
theorem mkF_first (f : Nat → Int) (k : Nat) : mkF 1 f k 0 = 0 := by unfold mkF; rw [if_neg (by omega)]

/-- the made block is told and spread again. -/
theorem made_runs (first : Nat) (hf : first = 0 ∨ first = 1) (f : Nat → Int) (k : Nat) :
    rE first 64 (mkF first f k) = 0 ∧ rN first 64 (mkF first f k) ≤ 64 ∧ sE first (rN first 64 (mkF first f k)) (rR first (mkF first f k)) (rL first (mkF first f k)) = 0 ∧ sN first (rN first 64 (mkF first f k)) (rR first (mkF first f k)) (rL first (mkF first f k)) = 64
      ∧ ∀ i, i < 64 → spF first (rR first (mkF first f k)) (rL first (mkF first f k)) (rN first 64 (mkF first f k)) i = mkF first f k i :=
  back_spread (first := first) (f := mkF first f k) hf (fun e => by subst e; exact mkF_first f k) (fun i _ => mkF_lvl first f k i)

set_option maxRecDepth 100000 in
set_option maxHeartbeats 2000000 in
theorem back_0 (v : Value) (a : Option Addr) (n c : Nat) (r l : Nat → Int) (va : Value) (aa : Option Addr) (m mc : Nat) (f : Nat → Int) (w : World)
    (hv : v = .slice a n c) (hs : Pl w v n r l) (hn : n ≤ 70) (hva : va = .slice aa m mc) (hi : Sl .i64 w va m f) (hm : m ≤ 64) :
    Calls Try.prog 7 #[v, va, .bool false] w fun e w' => e = .returned (.bool true) ∧ Below w.heap.size w w' := by
  have SL := Lib.hid hs
  have k0 : decide (70 < n) = false := by simp; omega
  have k1 : decide (64 < m) = false := by simp; omega
  have RD : Hid (∀ i, i < m → ∃ b o, aa = some ⟨b, o, none⟩ ∧ b < w.heap.size ∧ Ints w .i64 b o m f) := Lib.hid (by
    subst hva
    obtain ⟨a', c', he, _, _, h3⟩ := hi
    cases he
    intro i hi
    rcases h3 with ⟨h0, _⟩ | ⟨b, o, rfl, hb, hI⟩
    · omega
    · exact ⟨b, o, rfl, hb, hI⟩)
  have hmk := make64s
  clear hs hi
  subst hv hva
  go_enter Try.func7, Try.ntmps7
  go_wp2_with fail
  refine (ScanKnown_any _).mono ?_
  rintro e w1 ⟨rfl, b1⟩
  have HB := Lib.hid b1
  clear b1
  go_wp2_with fail
  refine (Spread_any _ 0 n r l _ (SL.out.below HB.out) (by omega)).mono ?_
  rintro e w2 ⟨vb, rfl, hR, b2⟩
  have RB := Lib.hid hR
  have HB := Lib.hid (chain HB.out b2)
  clear hR b2
  by_cases e0 : sE 0 n r l = 0
  · obtain ⟨p1, p2, p3⟩ := back_runs (first := 0) (by omega) e0
    have e1 : (sE 0 n r l == 0) = true := by rw [beq_iff_eq]; exact e0
    have P1 := Lib.hid p1
    have P2 := Lib.hid p2
    have P3 := Lib.hid p3
    have E64 : Hid (sN 0 n r l = 64) := Lib.hid (by unfold sN; rw [if_pos e0])
    clear p1 p2 p3 e0
    go_wp2_with fail
    refine (runs_true _ _ 0 _ 64 n _ r l _ (by rw [← E64.out]; exact RB.out.sl) (SL.out.below HB.out) P2.out (by omega) P1.out P3.out).mono ?_
    rintro e w5 ⟨rfl, b5⟩
    have HB := Lib.hid (chain HB.out b5)
    clear b5 RB
    go_wp2_with fail
    have HMK := Lib.hid hmk
    have G0 := Lib.hid (zr_new w5 3)
    have BG := Lib.hid (HB.out.alloc HB.out.size (.cells (rowOf .i64 64 (fun _ => 0)) 3))
    have zg : w.heap.size ≤ w5.heap.size := HB.out.size
    clear hmk
    go_loopw [12] (fun i wr => ∃ k : Nat, 0 ≤ k ∧ (k ≤ m ∨ k = 0) ∧ i = .int .i64 k ∧ Arr wr .i64 w5.heap.size 64 (mkF 0 f k) ∧ Below w.heap.size w wr) (fun i _ => m - (intOf i).toNat)
    case atStart => exact ⟨0, by omega, .inr rfl, rfl, by rw [mkF_zero]; exact G0.out, BG.out⟩
    case round =>
      obtain ⟨k, hk, hk2, rfl, hA, hB⟩ := hrel
      by_cases hkn : k < m
      · obtain ⟨b, o, rfl, hb, hI⟩ := RD.out k hkn
        have ck := (hI.below hB hb) k hkn
        have cz := hA k (by omega)
        have kb : (0 : Int) ≤ (k : Int) ∧ (k : Int) < (m : Int) := by omega
        have kb2 : (k : Int) < 64 := by omega
        have d1 : decide ((k : Int) < (m : Int)) = true := by simp; omega
        have HA := Lib.hid hA
        have HB := Lib.hid hB
        clear hA hB hI
        go_wp2_with fail
        refine (Pick_any (f k) 255 _ (by omega) (by omega)).mono ?_
        rintro e w9 ⟨rfl, rfl⟩
        have m1 := Int.emod_nonneg (f k) (show (255 : Int) ≠ 0 by omega)
        have m2 := Int.emod_lt_of_pos (f k) (show (0 : Int) < 255 by omega)
        go_wp2_with fail
        go_roundw
        case rel => exact ⟨k + 1, by omega, by omega, by go_num, by rw [← mkF_succ hk]; exact HA.out.set k _, HB.out.setCell (p := ⟨w5.heap.size, k, none⟩) zg _⟩
        case measure => simp [intOf]; omega
      · have d1 : decide ((k : Int) < (m : Int)) = false := by simp; omega
        obtain ⟨q1, q2, q3, q4, q5⟩ := made_runs 0 (by omega) f k
        have HA := Lib.hid hA
        have HB := Lib.hid hB
        have Q5 := Lib.hid q5
        have Q1 := Lib.hid q1
        have S0 : Hid (Sl .i64 wr (.slice (some ⟨w5.heap.size, 0, none⟩) 64 64) 64 (mkF 0 f k)) := Lib.hid ⟨_, _, rfl, Nat.le_refl _, by decide, .inr ⟨_, _, rfl, hA.lt (by omega), hA.ints⟩⟩
        clear hA hB RD q5 q1
        go_wp2_with fail
        refine (Runs_any _ 0 64 (mkF 0 f k) _ S0.out).mono ?_
        rintro e w3 ⟨vm, rfl, hR, b3⟩
        have RM := Lib.hid hR
        have S0 := Lib.hid (S0.out.below b3)
        have HB := Lib.hid (chain HB.out b3)
        have k5 : (rE 0 64 (mkF 0 f k) == 0) = true := by rw [beq_iff_eq]; exact Q1.out
        clear hR b3
        go_wp2_with fail
        refine (spreads_true _ _ 0 _ _ 64 _ _ _ _ RM.out.pl S0.out (Nat.le_trans q2 (by omega)) q4 q3 Q5.out).mono ?_
        rintro e w4 ⟨rfl, b4⟩
        have HB := Lib.hid (chain HB.out b4)
        clear b4
        go_wp2_with fail
        go_ret
        exact ⟨rfl, HB.out⟩

  · have e1 : (sE 0 n r l == 0) = false := by rw [beq_eq_false_iff_ne]; exact e0
    clear e0
    go_wp2_with fail
    have HMK := Lib.hid hmk
    have G0 := Lib.hid (zr_new w2 3)
    have BG := Lib.hid (HB.out.alloc HB.out.size (.cells (rowOf .i64 64 (fun _ => 0)) 3))
    have zg : w.heap.size ≤ w2.heap.size := HB.out.size
    clear hmk
    go_loopw [12] (fun i wr => ∃ k : Nat, 0 ≤ k ∧ (k ≤ m ∨ k = 0) ∧ i = .int .i64 k ∧ Arr wr .i64 w2.heap.size 64 (mkF 0 f k) ∧ Below w.heap.size w wr) (fun i _ => m - (intOf i).toNat)
    case atStart => exact ⟨0, by omega, .inr rfl, rfl, by rw [mkF_zero]; exact G0.out, BG.out⟩
    case round =>
      obtain ⟨k, hk, hk2, rfl, hA, hB⟩ := hrel
      by_cases hkn : k < m
      · obtain ⟨b, o, rfl, hb, hI⟩ := RD.out k hkn
        have ck := (hI.below hB hb) k hkn
        have cz := hA k (by omega)
        have kb : (0 : Int) ≤ (k : Int) ∧ (k : Int) < (m : Int) := by omega
        have kb2 : (k : Int) < 64 := by omega
        have d1 : decide ((k : Int) < (m : Int)) = true := by simp; omega
        have HA := Lib.hid hA
        have HB := Lib.hid hB
        clear hA hB hI
        go_wp2_with fail
        refine (Pick_any (f k) 255 _ (by omega) (by omega)).mono ?_
        rintro e w9 ⟨rfl, rfl⟩
        have m1 := Int.emod_nonneg (f k) (show (255 : Int) ≠ 0 by omega)
        have m2 := Int.emod_lt_of_pos (f k) (show (0 : Int) < 255 by omega)
        go_wp2_with fail
        go_roundw
        case rel => exact ⟨k + 1, by omega, by omega, by go_num, by rw [← mkF_succ hk]; exact HA.out.set k _, HB.out.setCell (p := ⟨w2.heap.size, k, none⟩) zg _⟩
        case measure => simp [intOf]; omega
      · have d1 : decide ((k : Int) < (m : Int)) = false := by simp; omega
        obtain ⟨q1, q2, q3, q4, q5⟩ := made_runs 0 (by omega) f k
        have HA := Lib.hid hA
        have HB := Lib.hid hB
        have Q5 := Lib.hid q5
        have Q1 := Lib.hid q1
        have S0 : Hid (Sl .i64 wr (.slice (some ⟨w2.heap.size, 0, none⟩) 64 64) 64 (mkF 0 f k)) := Lib.hid ⟨_, _, rfl, Nat.le_refl _, by decide, .inr ⟨_, _, rfl, hA.lt (by omega), hA.ints⟩⟩
        clear hA hB RD q5 q1
        go_wp2_with fail
        refine (Runs_any _ 0 64 (mkF 0 f k) _ S0.out).mono ?_
        rintro e w3 ⟨vm, rfl, hR, b3⟩
        have RM := Lib.hid hR
        have S0 := Lib.hid (S0.out.below b3)
        have HB := Lib.hid (chain HB.out b3)
        have k5 : (rE 0 64 (mkF 0 f k) == 0) = true := by rw [beq_iff_eq]; exact Q1.out
        clear hR b3
        go_wp2_with fail
        refine (spreads_true _ _ 0 _ _ 64 _ _ _ _ RM.out.pl S0.out (Nat.le_trans q2 (by omega)) q4 q3 Q5.out).mono ?_
        rintro e w4 ⟨rfl, b4⟩
        have HB := Lib.hid (chain HB.out b4)
        clear b4
        go_wp2_with fail
        go_ret
        exact ⟨rfl, HB.out⟩

set_option maxRecDepth 100000 in
set_option maxHeartbeats 2000000 in
theorem back_1 (v : Value) (a : Option Addr) (n c : Nat) (r l : Nat → Int) (va : Value) (aa : Option Addr) (m mc : Nat) (f : Nat → Int) (w : World)
    (hv : v = .slice a n c) (hs : Pl w v n r l) (hn : n ≤ 70) (hva : va = .slice aa m mc) (hi : Sl .i64 w va m f) (hm : m ≤ 64) :
    Calls Try.prog 7 #[v, va, .bool true] w fun e w' => e = .returned (.bool true) ∧ Below w.heap.size w w' := by
  have SL := Lib.hid hs
  have k0 : decide (70 < n) = false := by simp; omega
  have k1 : decide (64 < m) = false := by simp; omega
  have RD : Hid (∀ i, i < m → ∃ b o, aa = some ⟨b, o, none⟩ ∧ b < w.heap.size ∧ Ints w .i64 b o m f) := Lib.hid (by
    subst hva
    obtain ⟨a', c', he, _, _, h3⟩ := hi
    cases he
    intro i hi
    rcases h3 with ⟨h0, _⟩ | ⟨b, o, rfl, hb, hI⟩
    · omega
    · exact ⟨b, o, rfl, hb, hI⟩)
  have hmk := make64s
  clear hs hi
  subst hv hva
  go_enter Try.func7, Try.ntmps7
  go_wp2_with fail
  refine (ScanKnown_any _).mono ?_
  rintro e w1 ⟨rfl, b1⟩
  have HB := Lib.hid b1
  clear b1
  go_wp2_with fail
  refine (Spread_any _ 1 n r l _ (SL.out.below HB.out) (by omega)).mono ?_
  rintro e w2 ⟨vb, rfl, hR, b2⟩
  have RB := Lib.hid hR
  have HB := Lib.hid (chain HB.out b2)
  clear hR b2
  by_cases e0 : sE 1 n r l = 0
  · obtain ⟨p1, p2, p3⟩ := back_runs (first := 1) (by omega) e0
    have e1 : (sE 1 n r l == 0) = true := by rw [beq_iff_eq]; exact e0
    have P1 := Lib.hid p1
    have P2 := Lib.hid p2
    have P3 := Lib.hid p3
    have E64 : Hid (sN 1 n r l = 64) := Lib.hid (by unfold sN; rw [if_pos e0])
    clear p1 p2 p3 e0
    go_wp2_with fail
    refine (runs_true _ _ 1 _ 64 n _ r l _ (by rw [← E64.out]; exact RB.out.sl) (SL.out.below HB.out) P2.out (by omega) P1.out P3.out).mono ?_
    rintro e w5 ⟨rfl, b5⟩
    have HB := Lib.hid (chain HB.out b5)
    clear b5 RB
    go_wp2_with fail
    have HMK := Lib.hid hmk
    have G0 := Lib.hid (zr_new w5 3)
    have BG := Lib.hid (HB.out.alloc HB.out.size (.cells (rowOf .i64 64 (fun _ => 0)) 3))
    have zg : w.heap.size ≤ w5.heap.size := HB.out.size
    clear hmk
    go_loopw [12] (fun i wr => ∃ k : Nat, 1 ≤ k ∧ (k ≤ m ∨ k = 1) ∧ i = .int .i64 k ∧ Arr wr .i64 w5.heap.size 64 (mkF 1 f k) ∧ Below w.heap.size w wr) (fun i _ => m - (intOf i).toNat)
    case atStart => exact ⟨1, by omega, .inr rfl, rfl, by rw [mkF_zero]; exact G0.out, BG.out⟩
    case round =>
      obtain ⟨k, hk, hk2, rfl, hA, hB⟩ := hrel
      by_cases hkn : k < m
      · obtain ⟨b, o, rfl, hb, hI⟩ := RD.out k hkn
        have ck := (hI.below hB hb) k hkn
        have cz := hA k (by omega)
        have kb : (0 : Int) ≤ (k : Int) ∧ (k : Int) < (m : Int) := by omega
        have kb2 : (k : Int) < 64 := by omega
        have d1 : decide ((k : Int) < (m : Int)) = true := by simp; omega
        have HA := Lib.hid hA
        have HB := Lib.hid hB
        clear hA hB hI
        go_wp2_with fail
        refine (Pick_any (f k) 255 _ (by omega) (by omega)).mono ?_
        rintro e w9 ⟨rfl, rfl⟩
        have m1 := Int.emod_nonneg (f k) (show (255 : Int) ≠ 0 by omega)
        have m2 := Int.emod_lt_of_pos (f k) (show (0 : Int) < 255 by omega)
        go_wp2_with fail
        go_roundw
        case rel => exact ⟨k + 1, by omega, by omega, by go_num, by rw [← mkF_succ hk]; exact HA.out.set k _, HB.out.setCell (p := ⟨w5.heap.size, k, none⟩) zg _⟩
        case measure => simp [intOf]; omega
      · have d1 : decide ((k : Int) < (m : Int)) = false := by simp; omega
        obtain ⟨q1, q2, q3, q4, q5⟩ := made_runs 1 (by omega) f k
        have HA := Lib.hid hA
        have HB := Lib.hid hB
        have Q5 := Lib.hid q5
        have Q1 := Lib.hid q1
        have S0 : Hid (Sl .i64 wr (.slice (some ⟨w5.heap.size, 0, none⟩) 64 64) 64 (mkF 1 f k)) := Lib.hid ⟨_, _, rfl, Nat.le_refl _, by decide, .inr ⟨_, _, rfl, hA.lt (by omega), hA.ints⟩⟩
        clear hA hB RD q5 q1
        go_wp2_with fail
        refine (Runs_any _ 1 64 (mkF 1 f k) _ S0.out).mono ?_
        rintro e w3 ⟨vm, rfl, hR, b3⟩
        have RM := Lib.hid hR
        have S0 := Lib.hid (S0.out.below b3)
        have HB := Lib.hid (chain HB.out b3)
        have k5 : (rE 1 64 (mkF 1 f k) == 0) = true := by rw [beq_iff_eq]; exact Q1.out
        clear hR b3
        go_wp2_with fail
        refine (spreads_true _ _ 1 _ _ 64 _ _ _ _ RM.out.pl S0.out (Nat.le_trans q2 (by omega)) q4 q3 Q5.out).mono ?_
        rintro e w4 ⟨rfl, b4⟩
        have HB := Lib.hid (chain HB.out b4)
        clear b4
        go_wp2_with fail
        go_ret
        exact ⟨rfl, HB.out⟩

  · have e1 : (sE 1 n r l == 0) = false := by rw [beq_eq_false_iff_ne]; exact e0
    clear e0
    go_wp2_with fail
    have HMK := Lib.hid hmk
    have G0 := Lib.hid (zr_new w2 3)
    have BG := Lib.hid (HB.out.alloc HB.out.size (.cells (rowOf .i64 64 (fun _ => 0)) 3))
    have zg : w.heap.size ≤ w2.heap.size := HB.out.size
    clear hmk
    go_loopw [12] (fun i wr => ∃ k : Nat, 1 ≤ k ∧ (k ≤ m ∨ k = 1) ∧ i = .int .i64 k ∧ Arr wr .i64 w2.heap.size 64 (mkF 1 f k) ∧ Below w.heap.size w wr) (fun i _ => m - (intOf i).toNat)
    case atStart => exact ⟨1, by omega, .inr rfl, rfl, by rw [mkF_zero]; exact G0.out, BG.out⟩
    case round =>
      obtain ⟨k, hk, hk2, rfl, hA, hB⟩ := hrel
      by_cases hkn : k < m
      · obtain ⟨b, o, rfl, hb, hI⟩ := RD.out k hkn
        have ck := (hI.below hB hb) k hkn
        have cz := hA k (by omega)
        have kb : (0 : Int) ≤ (k : Int) ∧ (k : Int) < (m : Int) := by omega
        have kb2 : (k : Int) < 64 := by omega
        have d1 : decide ((k : Int) < (m : Int)) = true := by simp; omega
        have HA := Lib.hid hA
        have HB := Lib.hid hB
        clear hA hB hI
        go_wp2_with fail
        refine (Pick_any (f k) 255 _ (by omega) (by omega)).mono ?_
        rintro e w9 ⟨rfl, rfl⟩
        have m1 := Int.emod_nonneg (f k) (show (255 : Int) ≠ 0 by omega)
        have m2 := Int.emod_lt_of_pos (f k) (show (0 : Int) < 255 by omega)
        go_wp2_with fail
        go_roundw
        case rel => exact ⟨k + 1, by omega, by omega, by go_num, by rw [← mkF_succ hk]; exact HA.out.set k _, HB.out.setCell (p := ⟨w2.heap.size, k, none⟩) zg _⟩
        case measure => simp [intOf]; omega
      · have d1 : decide ((k : Int) < (m : Int)) = false := by simp; omega
        obtain ⟨q1, q2, q3, q4, q5⟩ := made_runs 1 (by omega) f k
        have HA := Lib.hid hA
        have HB := Lib.hid hB
        have Q5 := Lib.hid q5
        have Q1 := Lib.hid q1
        have S0 : Hid (Sl .i64 wr (.slice (some ⟨w2.heap.size, 0, none⟩) 64 64) 64 (mkF 1 f k)) := Lib.hid ⟨_, _, rfl, Nat.le_refl _, by decide, .inr ⟨_, _, rfl, hA.lt (by omega), hA.ints⟩⟩
        clear hA hB RD q5 q1
        go_wp2_with fail
        refine (Runs_any _ 1 64 (mkF 1 f k) _ S0.out).mono ?_
        rintro e w3 ⟨vm, rfl, hR, b3⟩
        have RM := Lib.hid hR
        have S0 := Lib.hid (S0.out.below b3)
        have HB := Lib.hid (chain HB.out b3)
        have k5 : (rE 1 64 (mkF 1 f k) == 0) = true := by rw [beq_iff_eq]; exact Q1.out
        clear hR b3
        go_wp2_with fail
        refine (spreads_true _ _ 1 _ _ 64 _ _ _ _ RM.out.pl S0.out (Nat.le_trans q2 (by omega)) q4 q3 Q5.out).mono ?_
        rintro e w4 ⟨rfl, b4⟩
        have HB := Lib.hid (chain HB.out b4)
        clear b4
        go_wp2_with fail
        go_ret
        exact ⟨rfl, HB.out⟩


theorem ScanBack_any (a0 : Option Addr) (n0 c0 : Nat) (r l : Nat → Int) (a1 : Option Addr) (n1 c1 : Nat) (zs : List Int) (second : Bool) (w : World) (hp : IsPl w a0 n0 c0 r l) (h1 : IsRow .i64 w a1 n1 c1 zs) :
    Calls Try.prog 7 #[.slice a0 n0 c0, .slice a1 n1 c1, .bool second] w fun e w' => e = .returned (.bool true) ∧ Below w.heap.size w w' := by
  obtain ⟨hs, _⟩ := h1.sl
  by_cases h : n0 ≤ 70 ∧ n1 ≤ 64
  · cases second
    · exact back_0 _ a0 n0 c0 r l _ a1 n1 c1 _ w rfl hp.pl h.1 rfl hs h.2
    · exact back_1 _ a0 n0 c0 r l _ a1 n1 c1 _ w rfl hp.pl h.1 rfl hs h.2
  · clear hp h1 hs
    by_cases h2 : n0 ≤ 70
    · have k0 : decide ((70 : Int) < (n0 : Int)) = false := by simp; omega
      have k1 : decide ((64 : Int) < (n1 : Int)) = true := by simp; omega
      have k2 : (decide ((70 : Int) < (n0 : Int)) || decide ((64 : Int) < (n1 : Int))) = true := by simp; omega
      clear h h2
      go_enter Try.func7, Try.ntmps7
      go_wp2_with fail
      refine (ScanKnown_any _).mono ?_
      rintro e w1 ⟨rfl, b1⟩
      go_wp2_with fail
      go_ret
      exact ⟨rfl, b1⟩
    · have k0 : decide ((70 : Int) < (n0 : Int)) = true := by simp; omega
      have k2 : (decide ((70 : Int) < (n0 : Int)) || decide ((64 : Int) < (n1 : Int))) = true := by simp; omega
      clear h h2
      go_enter Try.func7, Try.ntmps7
      go_wp2_with fail
      refine (ScanKnown_any _).mono ?_
      rintro e w1 ⟨rfl, b1⟩
      go_wp2_with fail
      go_ret
      exact ⟨rfl, b1⟩
end Sc
end Go.Proofs.Ytngffhpkjekopaa
