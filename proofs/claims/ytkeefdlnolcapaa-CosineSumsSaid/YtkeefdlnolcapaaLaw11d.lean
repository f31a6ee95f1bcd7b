/- CosineTwice, CosineRows. -/
import Derived.Test.YtkeefdlnolcapaaLaw11c
import Derived.Test.YtkeefdlnolcapaaPlCos3
import Derived.BigQuiet
namespace Go.Proofs.Ytkeefdlnolcapaa
open Go.RowKit
namespace Co

theorem Arr.sl {w : World} {k : IntKind} {g c n : Nat} {f : Nat → Int} (hc : n ≤ c) (hm : c ≤ maxLen) (hg : g < w.heap.size) (h : Arr w k g n f) : Sl k w (.slice (some ⟨g, 0, none⟩) n c) n f :=
  ⟨_, c, rfl, hc, hm, .inr ⟨g, 0, rfl, hg, h.ints⟩⟩
theorem bd_ok {f : Nat → Int} (h : ∀ i, -2048 ≤ f i ∧ f i ≤ 2047) : okV f 64 = true := okR_all fun i _ => h i
theorem bd_Bd {f : Nat → Int} (h : ∀ i, -2048 ≤ f i ∧ f i ≤ 2047) : Bd f := fun i _ => by have := h i; omega

set_option maxRecDepth 100000 in
set_option maxHeartbeats 4000000 in
theorem twice_short (v : Value) (a : Option Addr) (n cap : Nat) (hv : v = .slice a n cap) (f : Nat → Int) (w : World) (hs : Sl .i64 w v n f) (hn : n ≤ 64) :
    Calls Try.prog 7 #[v] w fun e w' => e = .returned (.bool true) ∧ Below w.heap.size w w' := by
  have SL := Lib.hid hs
  obtain ⟨F, hFe⟩ : ∃ F, F = mkP n f := ⟨_, rfl⟩
  have HF : Hid (∀ i, -2048 ≤ F i ∧ F i ≤ 2047) := Lib.hid (fun i => by rw [hFe]; exact mkP_bd n f i)
  have HFe := Lib.hid hFe
  have EO := Lib.hid (vE_ok (bd_ok HF.out))
  have NO := Lib.hid (vN_ok (bd_ok HF.out))
  have B0 : Hid (∀ i, i < 64 → -1099511627776 ≤ F i ∧ F i ≤ 1099511627776) := Lib.hid (fun i _ => by have := HF.out i; omega)
  have BR : Hid (∀ i, i < 64 → -1099511627776 ≤ rowsC F i ∧ rowsC F i ≤ 1099511627776) := Lib.hid (fun i hi => by have := rowsC_bd F 2048 (by omega) (bd_Bd HF.out) i hi; omega)
  have BC : Hid (∀ i, i < 64 → -1099511627776 ≤ colsC F i ∧ colsC F i ≤ 1099511627776) := Lib.hid (fun i hi => by have := colsC_bd F 2048 (by omega) (bd_Bd HF.out) i hi; omega)
  have BD := Lib.hid (inv_bd F (bd_ok HF.out))
  have RC := Lib.hid (rows_cols F (bd_Bd HF.out))
  subst hv
  clear hs hFe
  go_enter Try.func7, Try.ntmps7
  go_wp2_with fail
  refine (known_true _).mono ?_
  rintro e w1 ⟨rfl, b1⟩
  have SL := Lib.hid (SL.out.below b1)
  have HB := Lib.hid b1
  clear b1
  go_wp2_with fail
  refine (made_any _ n f _ SL.out hn).mono ?_
  rintro e w2 ⟨g1, c1, rfl, r1, r2, r3, r4, r5, b2⟩
  have HA : Hid (Arr w2 .i64 g1 64 F) := Lib.hid (by rw [HFe.out]; exact r5)
  have HB := Lib.hid (chain HB.out b2)
  clear r5 b2 SL
  go_wp2_with fail
  refine (Inverse_any _ 64 F _ (Arr.sl r3 r4 r2 HA.out)).mono ?_
  rintro e w3 ⟨va, rfl, hR, b3⟩
  rw [EO.out]
  rw [NO.out] at hR
  rcases hR with ⟨h0, _⟩ | ⟨g2, c2, rfl, q1, q2, q3, q4, q5⟩
  · exact absurd h0 (by decide)
  have HA := Lib.hid (HA.out.below b3 r2)
  have HW := Lib.hid q5
  have HB := Lib.hid (chain HB.out b3)
  have l1 : g1 < w3.heap.size := Nat.lt_of_lt_of_le r2 b3.size
  clear b3 q5
  go_wp2_with fail
  refine (lines_rows g1 c1 F _ HA.out B0.out).mono ?_
  rintro e w4 ⟨g4, c4, rfl, s1, s2, s3, s4, s5, b4⟩
  have HA := Lib.hid (HA.out.below b4 l1)
  have HW := Lib.hid (HW.out.below b4 q2)
  have HB := Lib.hid (chain HB.out b4)
  have HRo := Lib.hid s5
  have l1 : g1 < w4.heap.size := Nat.lt_of_lt_of_le l1 b4.size
  have l2 : g2 < w4.heap.size := Nat.lt_of_lt_of_le q2 b4.size
  clear b4 s5
  go_wp2_with fail
  refine (lines_cols g1 c1 F _ HA.out B0.out).mono ?_
  rintro e w5 ⟨g5, c5, rfl, t1, t2, t3, t4, t5, b5⟩
  have HW := Lib.hid (HW.out.below b5 l2)
  have HRo := Lib.hid (HRo.out.below b5 s2)
  have HB := Lib.hid (chain HB.out b5)
  have HCo := Lib.hid t5
  have l2 : g2 < w5.heap.size := Nat.lt_of_lt_of_le l2 b5.size
  have l4 : g4 < w5.heap.size := Nat.lt_of_lt_of_le s2 b5.size
  clear b5 t5 HA
  go_wp2_with fail
  refine (lines_cols g4 c4 (rowsC F) _ HRo.out BR.out).mono ?_
  rintro e w6 ⟨g6, c6, rfl, u1, u2, u3, u4, u5, b6⟩
  have HW := Lib.hid (HW.out.below b6 l2)
  have HCo := Lib.hid (HCo.out.below b6 t2)
  have HB := Lib.hid (chain HB.out b6)
  have HO := Lib.hid u5
  have l2 : g2 < w6.heap.size := Nat.lt_of_lt_of_le l2 b6.size
  clear b6 u5 HRo
  go_wp2_with fail
  refine (lines_rows g5 c5 (colsC F) _ HCo.out BC.out).mono ?_
  rintro e w7 ⟨g7, c7, rfl, v1, v2, v3, v4, v5, b7⟩
  have HW := Lib.hid (HW.out.below b7 l2)
  have HO := Lib.hid (HO.out.below b7 u2)
  have HB := Lib.hid (chain HB.out b7)
  have HT := Lib.hid v5
  clear b7 v5 HCo
  go_wp2_with fail
  go_loopw [15] (fun i wr => ∃ k : Nat, k ≤ 64 ∧ i = .int .i64 k ∧ ∃ m, wr = w7.drewN m) (fun i _ => 64 - (intOf i).toNat)
  case atStart => exact ⟨0, by omega, rfl, 0, rfl⟩
  case round =>
    obtain ⟨j, hj, rfl, m, rfl⟩ := hrel
    by_cases hj64 : j < 64
    · have cO := (HO.out j hj64).1
      have cT := (HT.out j hj64).1
      have cW := (HW.out j hj64).1
      rw [RC.out j hj64] at cT
      have bA := BD.out j hj64
      have eW : invC F j = (colsC (rowsC F) j + 8388608) / 16777216 := rfl
      rw [eW] at cW
      obtain ⟨A, hA⟩ : ∃ A, A = colsC (rowsC F) j := ⟨_, rfl⟩
      rw [← hA] at cO cT cW bA
      clear eW hA
      have jb : (0 : Int) ≤ (j : Int) ∧ (j : Int) < 64 := by omega
      go_wp2_with fail
      go_quiet (fail)
      go_wp2
      go_roundw
      case rel => exact ⟨j + 1, by omega, by go_num, _, rfl⟩
      case measure => simp [intOf]; omega
    · go_wp2
      go_ret
      exact ⟨rfl, below_drewN HB.out _⟩
set_option maxRecDepth 100000 in
theorem CosineTwice_walk (a : Option Addr) (n cap : Nat) (zs : List Int) (w : World) (w0 : IsRow .i64 w a n cap zs) :
    Calls Try.prog 7 #[.slice a n cap] w fun e w' => e = .returned (.bool true) ∧ Below w.heap.size w w' := by
  obtain ⟨hs, _⟩ := w0.sl
  by_cases h : n ≤ 64
  · exact twice_short _ a n cap rfl _ w hs h
  · clear hs w0
    go_enter Try.func7, Try.ntmps7
    go_wp2_with (go_at_call 6; refine (known_true _).mono ?_; rintro e w1 ⟨rfl, hw⟩)
    go_ret
    exact ⟨rfl, hw⟩

set_option maxRecDepth 100000 in
set_option maxHeartbeats 2000000 in
theorem rows_at (u v : Int) (p q : Nat) (hu : u % 8 = p) (hv : v % 8 = q) (hp : p < 8) (hq : q < 8) (w : World) :
    Calls Try.prog 9 #[.int .i64 u, .int .i64 v] w fun e w' => e = .returned (.bool true) ∧ Below w.heap.size w w' := by
  have HU := Lib.hid hu
  have HV := Lib.hid hv
  have NR := Lib.hid (rows_near0 p hp q hq)
  clear hu hv
  go_enter Try.func9, Try.ntmps9
  go_wp2_with fail
  refine (known_true _).mono ?_
  rintro e w1 ⟨rfl, b1⟩
  have HB := Lib.hid b1
  clear b1
  go_wp2_with fail
  refine (Pick_any u 8 _ (by omega) (by omega)).mono ?_
  rintro e w1' ⟨rfl, rfl⟩
  rw [HU.out]
  go_wp2_with fail
  refine (Pick_any v 8 _ (by omega) (by omega)).mono ?_
  rintro e w1' ⟨rfl, rfl⟩
  rw [HV.out]
  go_wp2_with fail
  go_loopw [6, 7] (fun s i wr => ∃ k : Nat, k ≤ 8 ∧ s = .int .i64 (rowS p q k) ∧ i = .int .i64 k ∧ Below w.heap.size w wr) (fun _ i _ => 8 - (intOf i).toNat)
  case atStart => exact ⟨0, by omega, rfl, rfl, HB.out⟩
  case round =>
    obtain ⟨k, hk, rfl, rfl, hB⟩ := hrel
    by_cases hk8 : k < 8
    · have kb : (0 : Int) ≤ (k : Int) ∧ (k : Int) < 8 := by omega
      have sb := rowS_bd p q k hp hq (by omega)
      have mb := mul_bd _ _ _ _ (Wt_bd p k hp hk8) (Wt_bd q k hq hk8)
      have ev : Hid (rowS p q (k + 1) = rowS p q k + Wt p k * Wt q k) := Lib.hid rfl
      obtain ⟨t, ht⟩ : ∃ t, t = Wt p k * Wt q k := ⟨_, rfl⟩
      have te : Wt p k * Wt q k = t := ht.symm
      rw [te] at mb ev
      have HB := Lib.hid hB
      clear hB ht
      go_wp2_with fail
      refine (Weight_in p k hp hk8 _).mono ?_
      rintro e w2 ⟨rfl, b2⟩
      have HB := Lib.hid (chain HB.out b2)
      clear b2
      go_wp2_with fail
      refine (Weight_in q k hq hk8 _).mono ?_
      rintro e w3 ⟨rfl, b3⟩
      have HB := Lib.hid (chain HB.out b3)
      clear b3
      go_wp2_with fail
      go_roundw
      case rel => exact ⟨k + 1, by omega, by rw [ev.out], by go_num, HB.out⟩
      case measure => simp [intOf]; omega
    · obtain ⟨S, hS⟩ : ∃ S, S = rowS p q k := ⟨_, rfl⟩
      have sb := rowS_bd p q k hp hq hk
      have nr := NR.out
      rw [show 8 = k by omega, ← hS] at nr
      rw [← hS] at sb ⊢
      have HB := Lib.hid hB
      have hk' : 8 ≤ k := by omega
      clear hB hS hk hk8
      by_cases hpq : p = q
      · rw [if_pos hpq] at nr
        have kd : ((p : Int) == (q : Int)) = true := by simp [hpq]
        have d1 : decide (-20000 < S - 16777216) = true := by simp; omega
        have d2 : decide (S - 16777216 < 20000) = true := by simp; omega
        go_wp2_with fail
        go_ret
        exact ⟨rfl, HB.out⟩
      · rw [if_neg hpq] at nr
        have kd : ((p : Int) == (q : Int)) = false := by simp; omega
        have d1 : decide (-20000 < S) = true := by simp; omega
        have d2 : decide (S < 20000) = true := by simp; omega
        go_wp2_with fail
        go_ret
        exact ⟨rfl, HB.out⟩
theorem CosineRows_walk (u v : Int) (w : World) (_ : (Lit.int .i64 u).wf = true) (_ : (Lit.int .i64 v).wf = true) :
    Calls Try.prog 9 #[.int .i64 u, .int .i64 v] w fun e w' => e = .returned (.bool true) ∧ Below w.heap.size w w' := by
  have h1 := Int.emod_nonneg u (show (8 : Int) ≠ 0 by omega)
  have h2 := Int.emod_lt_of_pos u (show (0 : Int) < 8 by omega)
  have h3 := Int.emod_nonneg v (show (8 : Int) ≠ 0 by omega)
  have h4 := Int.emod_lt_of_pos v (show (0 : Int) < 8 by omega)
  exact rows_at u v (u % 8).toNat (v % 8).toNat (by omega) (by omega) (by omega) (by omega) w
end Co
end Go.Proofs.Ytkeefdlnolcapaa
