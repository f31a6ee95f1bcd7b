/- MotionThere. -/
import Derived.Test.YtkddahboclmboaaMo12
import Derived.Test.YtkddahboclmboaaPlc
namespace Go.Proofs.Ytkddahboclmboaa
open Go.RowKit
namespace Mo
open Fr

theorem ix_at {n g a k x y : Int} (hv : vE n g a x y = 0) (hk : 1 ≤ k ∧ k ≤ 6) (i : Nat) (hi : i < 64) :
    ((k ≤ 4 → Pt.bA n (cX n g a) (cY n g a) k + ((i : Int) / 8 + y) * Pt.bS n k + (i : Int) % 8 + x = (ixN n g a k x y i : Int)) ∧ (¬ k ≤ 4 → Pt.bA n (cX n g a) (cY n g a) k + ((i : Int) / 8 + y.tdiv 2) * Pt.bS n k + (i : Int) % 8 + x.tdiv 2 = (ixN n g a k x y i : Int))) ∧
    (ixN n g a k x y i : Int) < zV n ∧ (k ≤ 4 → (ixN n g a k x y i : Int) < wV n * hV n) ∧ (k = 5 → wV n * hV n ≤ (ixN n g a k x y i : Int) ∧ (ixN n g a k x y i : Int) < wV n * hV n + wV n * hV n / 4) ∧ (k = 6 → wV n * hV n + wV n * hV n / 4 ≤ (ixN n g a k x y i : Int)) := by
  obtain ⟨h1, h2, h3, h4⟩ := pXY_in hv hk
  have hn := (cE_cases n g a (vE_zero hv).1).1
  have w0 : wV 0 = 176 := rfl
  have w1 : wV 1 = 352 := rfl
  have v0 : hV 0 = 144 := rfl
  have v1 : hV 1 = 288 := rfl
  have z0 : zV 0 = 38016 := rfl
  have z1 : zV 1 = 152064 := rfl
  unfold ixN
  unfold pX at h1 h2 ⊢
  unfold pY at h3 h4 ⊢
  unfold pW at h2 ⊢
  unfold pH at h4
  unfold pD Pt.bA Pt.bS
  clear hv
  generalize cX n g a = X at *
  generalize cY n g a = Y at *
  generalize x.tdiv 2 = xt at *
  generalize y.tdiv 2 = yt at *
  have : k = 1 ∨ k = 2 ∨ k = 3 ∨ k = 4 ∨ k = 5 ∨ k = 6 := by omega
  rcases hn with rfl | rfl <;> rcases this with rfl | rfl | rfl | rfl | rfl | rfl <;> simp only [Int.reduceLE, Int.reduceEq, ↓reduceIte, w0, w1, v0, v1, z0, z1, true_implies, false_implies, not_true_eq_false, not_false_eq_true, and_true, true_and] at * <;> omega
theorem vE_dec {n g a x y : Int} (hc : cE n g a = 0) (hx : -15 ≤ x ∧ x ≤ 15) (hy : -15 ≤ y ∧ y ≤ 15) : (vE n g a x y = 0 ∧ 0 ≤ cX n g a + x ∧ cX n g a + x + 16 ≤ wV n ∧ 0 ≤ cY n g a + y ∧ cY n g a + y + 16 ≤ hV n) ∨ (vE n g a x y = 12 ∧ ¬ (0 ≤ cX n g a + x ∧ cX n g a + x + 16 ≤ wV n ∧ 0 ≤ cY n g a + y ∧ cY n g a + y + 16 ≤ hV n)) := by
  unfold vE
  rw [if_neg (by omega), if_neg (by omega)]
  by_cases h : cX n g a + x < 0 ∨ wV n < cX n g a + x + 16 ∨ cY n g a + y < 0 ∨ hV n < cY n g a + y + 16
  · rw [if_pos h]; exact .inr ⟨rfl, by omega⟩
  · rw [if_neg h]; exact .inl ⟨rfl, by omega⟩
theorem spot_cE (a0 a1 a2 : Int) : cE (a0 % 2) (if a0 % 2 = 0 then 1 + 2 * (a1 % 3) else 1 + a1 % 12) (1 + a2 % 33) = 0 := by
  unfold cE
  have hn : a0 % 2 = 0 ∨ a0 % 2 = 1 := by omega
  rw [if_pos hn, if_pos, if_neg (by omega)]
  rcases hn with h | h
  · rw [h, if_pos rfl, inG_0, decide_eq_true_eq]; omega
  · rw [h, if_neg (by decide), inG_1, decide_eq_true_eq]; omega

set_option maxRecDepth 100000 in
set_option maxHeartbeats 8000000 in
theorem MotionThere_any (a0 a1 a2 a3 a4 a5 a6 a7 : Int) (w : World) (_ : (Lit.int .i64 a0).wf = true) (_ : (Lit.int .i64 a1).wf = true) (_ : (Lit.int .i64 a2).wf = true) (_ : (Lit.int .i64 a3).wf = true) (_ : (Lit.int .i64 a4).wf = true) (_ : (Lit.int .i64 a5).wf = true) (_ : (Lit.int .i64 a6).wf = true) (_ : (Lit.int .i64 a7).wf = true) :
    Calls Try.prog 8 #[.int .i64 a0, .int .i64 a1, .int .i64 a2, .int .i64 a3, .int .i64 a4, .int .i64 a5, .int .i64 a6, .int .i64 a7] w fun e w' => e = .returned (.bool true) ∧ Below w.heap.size w w' := by
  have hce := spot_cE a0 a1 a2
  obtain ⟨n, hn⟩ : ∃ n, a0 % 2 = n := ⟨_, rfl⟩
  obtain ⟨g, hg⟩ : ∃ g, (if a0 % 2 = 0 then 1 + 2 * (a1 % 3) else 1 + a1 % 12) = g := ⟨_, rfl⟩
  obtain ⟨a, ha⟩ : ∃ a, 1 + a2 % 33 = a := ⟨_, rfl⟩
  obtain ⟨k, hk⟩ : ∃ k, 1 + a3 % 6 = k := ⟨_, rfl⟩
  obtain ⟨x0, hx0⟩ : ∃ x, a4 % 31 - 15 = x := ⟨_, rfl⟩
  obtain ⟨y0, hy0⟩ : ∃ y, a5 % 31 - 15 = y := ⟨_, rfl⟩
  rw [hg, ha, hn] at hce
  have hn01 : n = 0 ∨ n = 1 := by omega
  have bk : 1 ≤ k ∧ k ≤ 6 := by omega
  have bx : -15 ≤ x0 ∧ x0 ≤ 15 := by omega
  have byy : -15 ≤ y0 ∧ y0 ≤ 15 := by omega
  obtain ⟨N, hN⟩ : ∃ N : Nat, (N : Int) = zV n := ⟨(zV n).toNat, by rcases hn01 with rfl | rfl <;> rfl⟩
  have Nb : 0 < N ∧ N ≤ 152064 := by rcases hn01 with rfl | rfl <;> (have : (N : Int) = _ := hN; simp [zV] at this; omega)
  have Nm : N ≤ maxLen := Nat.le_trans Nb.2 (by decide)
  have SPE : Hid ((Value.agg #[.int .i64 (a0 % 2), .int .i64 (if a0 % 2 = 0 then 1 + 2 * (a1 % 3) else 1 + a1 % 12), .int .i64 (1 + a2 % 33)]) = .agg #[.int .i64 n, .int .i64 g, .int .i64 a]) := Lib.hid (by rw [hg, ha, hn])
  have hpE : Pt.pE n g a k = 0 := by unfold Pt.pE; rw [if_neg (by omega), if_neg (by omega)]
  obtain ⟨A, hA0⟩ : ∃ A, Pt.bA n (cX n g a) (cY n g a) k = A := ⟨_, rfl⟩
  obtain ⟨S, hS0⟩ : ∃ S, Pt.bS n k = S := ⟨_, rfl⟩
  have hpA : Pt.pA n g a k = A := by unfold Pt.pA; rw [hpE, if_pos rfl, hA0]
  have hpS : Pt.pS n g a k = S := by unfold Pt.pS; rw [hpE, if_pos rfl, hS0]
  have bcX := cX_bd n g a hce
  have bcY := cY_bd n g a hce
  obtain ⟨X, hX⟩ : ∃ X, cX n g a = X := ⟨_, rfl⟩
  obtain ⟨Y, hY⟩ : ∃ Y, cY n g a = Y := ⟨_, rfl⟩
  obtain ⟨W, hW⟩ : ∃ W, wV n = W := ⟨_, rfl⟩
  obtain ⟨H, hH⟩ : ∃ H, hV n = H := ⟨_, rfl⟩
  obtain ⟨WH, hWH⟩ : ∃ WH, W * H = WH := ⟨_, rfl⟩
  have bWH : (W = 176 ∧ H = 144 ∧ WH = 25344) ∨ (W = 352 ∧ H = 288 ∧ WH = 101376) := by
    rcases hn01 with rfl | rfl
    · left; subst hW hH hWH; exact ⟨rfl, rfl, rfl⟩
    · right; subst hW hH hWH; exact ⟨rfl, rfl, rfl⟩
  have bW : 0 ≤ W ∧ W ≤ 352 := by omega
  have bH : 0 ≤ H ∧ H ≤ 288 := by omega
  have bS : 88 ≤ S ∧ S ≤ 352 := by
    rw [← hS0]; unfold Pt.bS; rcases hn01 with rfl | rfl <;> split <;> simp [wV]
  have hVD := vE_dec hce bx byy
  have IXA : Hid (∀ i : Nat, vE n g a x0 y0 = 0 → i < 64 → (((k ≤ 4 → A + ((i : Int) / 8 + y0) * S + (i : Int) % 8 + x0 = (ixN n g a k x0 y0 i : Int)) ∧ (¬ k ≤ 4 → A + ((i : Int) / 8 + y0.tdiv 2) * S + (i : Int) % 8 + x0.tdiv 2 = (ixN n g a k x0 y0 i : Int))) ∧
    (ixN n g a k x0 y0 i : Int) < (N : Int) ∧ (k ≤ 4 → (ixN n g a k x0 y0 i : Int) < WH) ∧ (k = 5 → WH ≤ (ixN n g a k x0 y0 i : Int) ∧ (ixN n g a k x0 y0 i : Int) < WH + WH / 4) ∧ (k = 6 → WH + WH / 4 ≤ (ixN n g a k x0 y0 i : Int)))) := Lib.hid (fun i hv hi => by
    have h := ix_at hv bk i hi
    rw [hA0, hS0, ← hN, hW, hH, hWH] at h
    exact h)
  have bA : 0 ≤ A ∧ A ≤ 200000 := by
    rw [← hA0]; unfold Pt.bA
    rw [hW] at bcX
    rw [hH] at bcY
    rcases hn01 with rfl | rfl
    · rw [show wV 0 = 176 from rfl, show hV 0 = 144 from rfl]; split <;> omega
    · rw [show wV 1 = 352 from rfl, show hV 1 = 288 from rfl]; split <;> omega
  rw [hX, hW] at bcX
  rw [hY, hH] at bcY
  rw [hX, hY, hW, hH] at hVD
  have bX : 0 ≤ X ∧ X ≤ 352 := by omega
  have bY : 0 ≤ Y ∧ Y ≤ 288 := by omega
  have HCE := Lib.hid hce
  have HPE := Lib.hid hpE
  have HPA := Lib.hid hpA
  have HPS := Lib.hid hpS
  have HXE := Lib.hid hX
  have HYE := Lib.hid hY
  have HWE := Lib.hid hW
  have HHE := Lib.hid hH
  have HWH := Lib.hid hWH
  have HFE : Hid (fE n = 0) := Lib.hid (by unfold fE; rw [if_pos hn01])
  have HVD := Lib.hid hVD
  have HK0 := Lib.hid hk
  have HX0 := Lib.hid hx0
  have HY0 := Lib.hid hy0
  have HN := Lib.hid hN
  have H01 := Lib.hid hn01
  have HBW := Lib.hid bWH
  clear hn hg ha hk hx0 hy0 hN hn01 hce hpE hpA hpS hA0 hS0 hX hY hW hH hWH hVD bWH
  go_enter Try.func8, Try.ntmps8
  go_wp2_with fail
  refine (MotionKnown_any _).mono ?_
  rintro e w1 ⟨rfl, b1⟩
  have HB := Lib.hid b1
  clear b1
  go_wp2_with fail
  refine (Spot_any a0 a1 a2 _).mono ?_
  rintro e w2 ⟨rfl, b2⟩
  rw [SPE.out]
  have HB := Lib.hid (chain HB.out b2)
  clear b2
  go_wp2_with fail
  refine (Pick_any a3 6 _ (by omega) (by omega)).mono ?_
  rintro e w3 ⟨rfl, rfl⟩
  have HS : Hid (Spt (w2.alloc (.cells #[.int .i64 n, .int .i64 g, .int .i64 a] 23)) w2.heap.size n g a) := Lib.hid (heap_alloc_new w2 _)
  have HB := Lib.hid (HB.out.alloc HB.out.size (.cells #[.int .i64 n, .int .i64 g, .int .i64 a] 23))
  obtain ⟨q2, hq2⟩ : ∃ q, a3 % 6 = q := ⟨_, rfl⟩
  rw [hq2]
  have e2 : 1 + q2 = k := by rw [← hq2]; exact HK0.out
  have bq2 : 0 ≤ q2 ∧ q2 < 6 := by omega
  clear hq2
  go_wp2_with fail
  refine (Pick_any a4 31 _ (by omega) (by omega)).mono ?_
  rintro e w3 ⟨rfl, rfl⟩
  obtain ⟨q3, hq3⟩ : ∃ q, a4 % 31 = q := ⟨_, rfl⟩
  rw [hq3]
  have e3 : q3 - 15 = x0 := by rw [← hq3]; exact HX0.out
  have bq3 : 0 ≤ q3 ∧ q3 < 31 := by omega
  clear hq3
  go_wp2_with fail
  refine (Pick_any a5 31 _ (by omega) (by omega)).mono ?_
  rintro e w3 ⟨rfl, rfl⟩
  obtain ⟨q4, hq4⟩ : ∃ q, a5 % 31 = q := ⟨_, rfl⟩
  rw [hq4]
  have e4 : q4 - 15 = y0 := by rw [← hq4]; exact HY0.out
  have bq4 : 0 ≤ q4 ∧ q4 < 31 := by omega
  clear hq4
  obtain ⟨s0, s1, s2⟩ := HS.out.cells
  go_wp2_with fail
  refine (Scene_any n a6 a7 N H01.out HN.out _).mono ?_
  rintro e w4 ⟨gi, F, rfl, i1, i2, hA, b4⟩
  have HS := Lib.hid (HS.out.below b4)
  have HI := Lib.hid hA
  have HB := Lib.hid (chain HB.out b4)
  clear hA b4 s0 s1 s2 i1
  obtain ⟨s0, s1, s2⟩ := HS.out.cells
  go_wp2_with fail
  refine (Pt.Place_any n g a k _).mono ?_
  rintro e w5 ⟨rfl, b5⟩
  rw [HPE.out, HPA.out, HPS.out]
  have HS := Lib.hid (HS.out.below b5)
  have HI := Lib.hid (HI.out.below b5 i2)
  have i2 := Nat.lt_of_lt_of_le i2 b5.size
  have HB := Lib.hid (chain HB.out b5)
  clear b5 s0 s1 s2
  obtain ⟨s0, s1, s2⟩ := HS.out.cells
  go_wp2_with fail
  refine (Size_any n _).mono ?_
  rintro e w6 ⟨rfl, rfl⟩
  rw [HWE.out, HHE.out, HFE.out]
  go_wp2_with fail
  refine (Corner_any n g a _).mono ?_
  rintro e w6 ⟨rfl, b6⟩
  rw [HXE.out, HYE.out, HCE.out]
  have HS := Lib.hid (HS.out.below b6)
  have HI := Lib.hid (HI.out.below b6 i2)
  have i2 := Nat.lt_of_lt_of_le i2 b6.size
  have HB := Lib.hid (chain HB.out b6)
  clear b6 s0 s1 s2
  have kS : decide (S < 1) = false := by simp; omega
  have sl : Hid (w6.heap[w2.heap.size]? = some (.cells #[.int .i64 n, .int .i64 g, .int .i64 a] 23 (0, 0))) := HS
  obtain ⟨s0, s1, s2⟩ := HS.out.cells
  go_wp2_with fail
  refine (Fetch_any _ N F n g a k x0 y0 _ (arr_slN HI.out Nb.1 Nm) (wf_small (by omega)) (wf_small (by omega))).mono ?_
  rintro e w7 ⟨v1, rfl, hR, b7⟩
  obtain ⟨o1, c1, rfl, hf1⟩ := res_form hR
  have HF1 := Lib.hid hf1
  have HS := Lib.hid (HS.out.below b7)
  have HI := Lib.hid (HI.out.below b7 i2)
  have i2 := Nat.lt_of_lt_of_le i2 b7.size
  have HB := Lib.hid (chain HB.out b7)
  clear b7 s0 s1 s2 hf1 hR sl
  obtain ⟨s0, s1, s2⟩ := HS.out.cells
  have FEV : Hid (fetE (N : Int) n g a k x0 y0 = vE n g a x0 y0) := Lib.hid (by
    unfold fetE
    rw [if_neg (by have := HCE.out; omega), if_neg (by have := HN.out; omega), if_neg (by omega)])
  by_cases hv : vE n g a x0 y0 = 0
  · have HV := Lib.hid hv
    have FE : Hid (fetE (N : Int) n g a k x0 y0 = 0) := Lib.hid (by rw [FEV.out, hv])
    have FN : Hid (fetN (N : Int) n g a k x0 y0 = 64) := Lib.hid (by unfold fetN; rw [if_pos FE.out])
    have hin : 0 ≤ X + x0 ∧ X + x0 + 16 ≤ W ∧ 0 ≤ Y + y0 ∧ Y + y0 + 16 ≤ H := by
      rcases HVD.out with h | h
      · exact h.2
      · exfalso; rw [hv] at h; omega
    have p1 : decide (0 ≤ X + x0) = true := by simp; omega
    have p2 : decide (X + x0 + 16 ≤ W) = true := by simp; omega
    have p3 : decide (0 ≤ Y + y0) = true := by simp; omega
    have p4 : decide (Y + y0 + 16 ≤ H) = true := by simp; omega
    rw [FN.out] at HF1 ⊢
    rw [FE.out]
    obtain ⟨g1, rfl, l1, A1⟩ := HF1.out 0 (by omega)
    have A1 := Lib.hid A1
    clear hv HF1
    go_wp2_with fail
    refine (Fits_any n g a x0 y0 _ (wf_small (by omega)) (wf_small (by omega))).mono ?_
    rintro e w8 ⟨rfl, b8⟩
    rw [HV.out]
    have HI := Lib.hid (HI.out.below b8 i2)
    have i2 := Nat.lt_of_lt_of_le i2 b8.size
    have A1 := Lib.hid (A1.out.below b8 l1)
    have l1 := Nat.lt_of_lt_of_le l1 b8.size
    have HB := Lib.hid (chain HB.out b8)
    clear b8 s0 s1 s2 p1 p2 p3 p4
    have EW : IntKind.i64.wrap (W * H) = WH := by rw [HWH.out]; have := HBW.out; exact IntWalk.i64_in _ (by omega)
    have bWH : 0 ≤ WH ∧ WH ≤ 101376 := by have := HBW.out; omega
    by_cases h4 : k ≤ 4
    · have g4 : decide (4 < k) = false := by simp; omega
      go_wp2_with fail
      have k4 : decide (k ≤ 4) = true := by simp; omega
      have k5 : (k == 5) = false := by simp; omega
      have k6 : (k == 6) = false := by simp; omega
      go_loopw [33] (fun i wr => ∃ j : Nat, j ≤ 64 ∧ i = .int .i64 j ∧ Below w8.heap.size w8 wr) (fun i _ => 64 - (intOf i).toNat)
      case atStart => exact ⟨0, by omega, rfl, Below.refl _ _⟩
      case round =>
        obtain ⟨j, hj, rfl, hBr⟩ := hrel
        have HBr := Lib.hid hBr
        clear hBr
        by_cases hj4 : j < 64
        · have hix := IXA.out j HV.out hj4
          have ca := (A1.out.below HBr.out l1) j hj4
          rw [fet_ix] at ca
          obtain ⟨z, hz⟩ : ∃ z, ixN n g a k x0 y0 j = z := ⟨_, rfl⟩
          rw [hz] at hix ca
          obtain ⟨⟨hz1, _⟩, hz2, hz3, hz4, hz5⟩ := hix
          have hz1 := hz1 (by omega)
          have cb := (HI.out.below HBr.out i2) z (by omega)
          obtain ⟨B, hB⟩ : ∃ B, F z = B := ⟨_, rfl⟩
          rw [hB] at ca cb
          have t1 : (B != B) = false := by simp
          obtain ⟨Q, hQ⟩ : ∃ Q, ((j : Int) / 8 + y0) * S = Q := ⟨_, rfl⟩
          rw [hQ] at hz1
          have bQ : -300000 ≤ Q ∧ Q ≤ 400000 := by omega
          have E1 : IntKind.i64.wrap (((j : Int) / 8 + y0) * S) = Q := by rw [hQ]; exact IntWalk.i64_in _ (by omega)
          have E2 : IntKind.i64.wrap (A + Q + (j : Int) % 8 + x0) = (z : Int) := by rw [hz1]; exact IntWalk.i64_in _ (by omega)
          have E2' : A + Q + (j : Int) % 8 + x0 = (z : Int) := hz1
          have zn : decide ((z : Int) < 0) = false := decide_eq_false (by omega)
          have zN : decide ((N : Int) ≤ (z : Int)) = false := by simp; omega
          have zN' : decide (N ≤ z) = false := by simp; omega
          have zb : (0 : Int) ≤ (z : Int) ∧ (z : Int) < (N : Int) := by omega
          have jb : (0 : Int) ≤ (j : Int) ∧ (j : Int) < 64 := by omega
          have z4 : decide (WH ≤ (z : Int)) = false := by have := hz3 (by omega); simp; omega
          have q1 := Past.cell ca.1
          have q2 := Past.cell cb.1
          clear hz hz1 hz2 hz3 hz4 hz5 hQ hB ca cb
          go_wp2_with fail
          refine wp_region_past (by kernel_rfl) (by kernel_rfl) ?_
          simp only [List.append_eq, List.cons_append, List.nil_append]
          repeat (go_big_quiet_step (fail))
          refine wpQuiet_nil ?_
          rintro w9 ⟨⟨_, h9⟩, rfl⟩
          clear q1 q2 E1 E2 E2'
          go_wp2_with fail
          go_roundw
          case rel => exact ⟨j + 1, by omega, by go_num, chain HBr.out h9⟩
          case measure => simp [intOf]; omega
        · go_wp2_with fail
          go_ret
          exact ⟨rfl, HB.out.trans (HBr.out.mono HB.out.size)⟩
    · have g4 : decide (4 < k) = true := by simp; omega
      obtain ⟨xh, hxh⟩ : ∃ t, x0.tdiv 2 = t := ⟨_, rfl⟩
      obtain ⟨yh, hyh⟩ : ∃ t, y0.tdiv 2 = t := ⟨_, rfl⟩
      have bxh : -8 ≤ xh ∧ xh ≤ 8 := by have h1 := tdiv2 x0; rcases Int.lt_or_le x0 0 with h | h; (have := h1.2 h; omega); (have := h1.1 h; omega)
      have byh : -8 ≤ yh ∧ yh ≤ 8 := by have h1 := tdiv2 y0; rcases Int.lt_or_le y0 0 with h | h; (have := h1.2 h; omega); (have := h1.1 h; omega)
      go_wp2_with fail
      by_cases h5 : k = 5
      · have k4 : decide (k ≤ 4) = false := by simp; omega
        have k5 : (k == 5) = true := by simp; omega
        have k6 : (k == 6) = false := by simp; omega
        go_loopw [33] (fun i wr => ∃ j : Nat, j ≤ 64 ∧ i = .int .i64 j ∧ Below w8.heap.size w8 wr) (fun i _ => 64 - (intOf i).toNat)
        case atStart => exact ⟨0, by omega, rfl, Below.refl _ _⟩
        case round =>
          obtain ⟨j, hj, rfl, hBr⟩ := hrel
          have HBr := Lib.hid hBr
          clear hBr
          by_cases hj4 : j < 64
          · have hix := IXA.out j HV.out hj4
            have ca := (A1.out.below HBr.out l1) j hj4
            rw [fet_ix] at ca
            obtain ⟨z, hz⟩ : ∃ z, ixN n g a k x0 y0 j = z := ⟨_, rfl⟩
            rw [hz] at hix ca
            obtain ⟨⟨_, hz1⟩, hz2, hz3, hz4, hz5⟩ := hix
            have hz1 := hz1 (by omega)
            rw [hyh, hxh] at hz1
            have cb := (HI.out.below HBr.out i2) z (by omega)
            obtain ⟨B, hB⟩ : ∃ B, F z = B := ⟨_, rfl⟩
            rw [hB] at ca cb
            have t1 : (B != B) = false := by simp
            obtain ⟨Q, hQ⟩ : ∃ Q, ((j : Int) / 8 + yh) * S = Q := ⟨_, rfl⟩
            rw [hQ] at hz1
            have bQ : -300000 ≤ Q ∧ Q ≤ 400000 := by omega
            have E1 : IntKind.i64.wrap (((j : Int) / 8 + yh) * S) = Q := by rw [hQ]; exact IntWalk.i64_in _ (by omega)
            have E2 : IntKind.i64.wrap (A + Q + (j : Int) % 8 + xh) = (z : Int) := by rw [hz1]; exact IntWalk.i64_in _ (by omega)
            have E2' : A + Q + (j : Int) % 8 + xh = (z : Int) := hz1
            have zn : decide ((z : Int) < 0) = false := decide_eq_false (by omega)
            have zN : decide ((N : Int) ≤ (z : Int)) = false := by simp; omega
            have zN' : decide (N ≤ z) = false := by simp; omega
            have zb : (0 : Int) ≤ (z : Int) ∧ (z : Int) < (N : Int) := by omega
            have jb : (0 : Int) ≤ (j : Int) ∧ (j : Int) < 64 := by omega
            have z4 : decide ((z : Int) < WH) = false := by have := hz4 (by omega); simp; omega
            have z5 : decide (WH + WH / 4 ≤ (z : Int)) = false := by have := hz4 (by omega); simp; omega
            have q1 := Past.cell ca.1
            have q2 := Past.cell cb.1
            clear hz hz1 hz2 hz3 hz4 hz5 hQ hB ca cb
            go_wp2_with fail
            refine wp_region_past (by kernel_rfl) (by kernel_rfl) ?_
            simp only [List.append_eq, List.cons_append, List.nil_append]
            repeat (go_big_quiet_step (fail))
            refine wpQuiet_nil ?_
            rintro w9 ⟨⟨_, h9⟩, rfl⟩
            clear q1 q2 E1 E2 E2'
            go_wp2_with fail
            go_roundw
            case rel => exact ⟨j + 1, by omega, by go_num, chain HBr.out h9⟩
            case measure => simp [intOf]; omega
          · go_wp2_with fail
            go_ret
            exact ⟨rfl, HB.out.trans (HBr.out.mono HB.out.size)⟩
      · have h6 : k = 6 := by omega
        have k4 : decide (k ≤ 4) = false := by simp; omega
        have k5 : (k == 5) = false := by simp; omega
        have k6 : (k == 6) = true := by simp; omega
        go_loopw [33] (fun i wr => ∃ j : Nat, j ≤ 64 ∧ i = .int .i64 j ∧ Below w8.heap.size w8 wr) (fun i _ => 64 - (intOf i).toNat)
        case atStart => exact ⟨0, by omega, rfl, Below.refl _ _⟩
        case round =>
          obtain ⟨j, hj, rfl, hBr⟩ := hrel
          have HBr := Lib.hid hBr
          clear hBr
          by_cases hj4 : j < 64
          · have hix := IXA.out j HV.out hj4
            have ca := (A1.out.below HBr.out l1) j hj4
            rw [fet_ix] at ca
            obtain ⟨z, hz⟩ : ∃ z, ixN n g a k x0 y0 j = z := ⟨_, rfl⟩
            rw [hz] at hix ca
            obtain ⟨⟨_, hz1⟩, hz2, hz3, hz4, hz5⟩ := hix
            have hz1 := hz1 (by omega)
            rw [hyh, hxh] at hz1
            have cb := (HI.out.below HBr.out i2) z (by omega)
            obtain ⟨B, hB⟩ : ∃ B, F z = B := ⟨_, rfl⟩
            rw [hB] at ca cb
            have t1 : (B != B) = false := by simp
            obtain ⟨Q, hQ⟩ : ∃ Q, ((j : Int) / 8 + yh) * S = Q := ⟨_, rfl⟩
            rw [hQ] at hz1
            have bQ : -300000 ≤ Q ∧ Q ≤ 400000 := by omega
            have E1 : IntKind.i64.wrap (((j : Int) / 8 + yh) * S) = Q := by rw [hQ]; exact IntWalk.i64_in _ (by omega)
            have E2 : IntKind.i64.wrap (A + Q + (j : Int) % 8 + xh) = (z : Int) := by rw [hz1]; exact IntWalk.i64_in _ (by omega)
            have E2' : A + Q + (j : Int) % 8 + xh = (z : Int) := hz1
            have zn : decide ((z : Int) < 0) = false := decide_eq_false (by omega)
            have zN : decide ((N : Int) ≤ (z : Int)) = false := by simp; omega
            have zN' : decide (N ≤ z) = false := by simp; omega
            have zb : (0 : Int) ≤ (z : Int) ∧ (z : Int) < (N : Int) := by omega
            have jb : (0 : Int) ≤ (j : Int) ∧ (j : Int) < 64 := by omega
            have z4 : decide ((z : Int) < WH + WH / 4) = false := by have := hz5 (by omega); simp; omega
            have q1 := Past.cell ca.1
            have q2 := Past.cell cb.1
            clear hz hz1 hz2 hz3 hz4 hz5 hQ hB ca cb
            go_wp2_with fail
            refine wp_region_past (by kernel_rfl) (by kernel_rfl) ?_
            simp only [List.append_eq, List.cons_append, List.nil_append]
            repeat (go_big_quiet_step (fail))
            refine wpQuiet_nil ?_
            rintro w9 ⟨⟨_, h9⟩, rfl⟩
            clear q1 q2 E1 E2 E2'
            go_wp2_with fail
            go_roundw
            case rel => exact ⟨j + 1, by omega, by go_num, chain HBr.out h9⟩
            case measure => simp [intOf]; omega
          · go_wp2_with fail
            go_ret
            exact ⟨rfl, HB.out.trans (HBr.out.mono HB.out.size)⟩
  · have HV : Hid (vE n g a x0 y0 = 12) := Lib.hid (by
      rcases HVD.out with h | h
      · exact absurd h.1 hv
      · exact h.1)
    have FE : Hid (fetE (N : Int) n g a k x0 y0 = 12) := Lib.hid (by rw [FEV.out, HV.out])
    have FN : Hid (fetN (N : Int) n g a k x0 y0 = 0) := Lib.hid (by unfold fetN; rw [if_neg (by rw [FE.out]; decide)])
    have hout : ¬ (0 ≤ X + x0 ∧ X + x0 + 16 ≤ W ∧ 0 ≤ Y + y0 ∧ Y + y0 + 16 ≤ H) := by
      rcases HVD.out with h | h
      · exact absurd h.1 hv
      · exact h.2
    rw [FE.out, FN.out]
    clear hv HF1
    have hcs : (¬ 0 ≤ X + x0) ∨ (0 ≤ X + x0 ∧ ¬ X + x0 + 16 ≤ W) ∨ (0 ≤ X + x0 ∧ X + x0 + 16 ≤ W ∧ ¬ 0 ≤ Y + y0) ∨ (0 ≤ X + x0 ∧ X + x0 + 16 ≤ W ∧ 0 ≤ Y + y0 ∧ ¬ Y + y0 + 16 ≤ H) := by omega
    clear hout
    rcases hcs with h | h | h | h
    · have p1 : decide (0 ≤ X + x0) = false := by simp; omega
      clear h
      go_wp2_with fail
      refine (Fits_any n g a x0 y0 _ (wf_small (by omega)) (wf_small (by omega))).mono ?_
      rintro e w8 ⟨rfl, b8⟩
      rw [HV.out]
      have HB := Lib.hid (chain HB.out b8)
      clear b8
      go_wp2_with fail
      go_ret
      exact ⟨rfl, HB.out⟩
    · have p1 : decide (0 ≤ X + x0) = true := by simp; omega
      have p2 : decide (X + x0 + 16 ≤ W) = false := by simp; omega
      clear h
      go_wp2_with fail
      refine (Fits_any n g a x0 y0 _ (wf_small (by omega)) (wf_small (by omega))).mono ?_
      rintro e w8 ⟨rfl, b8⟩
      rw [HV.out]
      have HB := Lib.hid (chain HB.out b8)
      clear b8
      go_wp2_with fail
      go_ret
      exact ⟨rfl, HB.out⟩
    · have p1 : decide (0 ≤ X + x0) = true := by simp; omega
      have p2 : decide (X + x0 + 16 ≤ W) = true := by simp; omega
      have p3 : decide (0 ≤ Y + y0) = false := by simp; omega
      clear h
      go_wp2_with fail
      refine (Fits_any n g a x0 y0 _ (wf_small (by omega)) (wf_small (by omega))).mono ?_
      rintro e w8 ⟨rfl, b8⟩
      rw [HV.out]
      have HB := Lib.hid (chain HB.out b8)
      clear b8
      go_wp2_with fail
      go_ret
      exact ⟨rfl, HB.out⟩
    · have p1 : decide (0 ≤ X + x0) = true := by simp; omega
      have p2 : decide (X + x0 + 16 ≤ W) = true := by simp; omega
      have p3 : decide (0 ≤ Y + y0) = true := by simp; omega
      have p4 : decide (Y + y0 + 16 ≤ H) = false := by simp; omega
      clear h
      go_wp2_with fail
      refine (Fits_any n g a x0 y0 _ (wf_small (by omega)) (wf_small (by omega))).mono ?_
      rintro e w8 ⟨rfl, b8⟩
      rw [HV.out]
      have HB := Lib.hid (chain HB.out b8)
      clear b8
      go_wp2_with fail
      go_ret
      exact ⟨rfl, HB.out⟩

end Mo
end Go.Proofs.Ytkddahboclmboaa
