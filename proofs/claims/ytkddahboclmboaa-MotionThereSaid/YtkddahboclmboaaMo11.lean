/- Scenes by numbers; MotionShared. -/
import Derived.Test.YtkddahboclmboaaMo10
namespace Go.Proofs.Ytkddahboclmboaa
open Go.RowKit
namespace Mo
open Fr

theorem made_arr {w : World} {base g N : Nat} {e : TypeId} (h : w.ownsRow base e 1 (.slice (some ⟨g, 0, none⟩) N N) N (madeCells (Value.int .u8 0).cells (N * 1)).toList) : Arr w .u8 g N (fun _ => 0) := by
  have hc := fun j u hu => World.ownsRow.cells h (g := g) rfl j u hu
  rcases h.2 with ⟨h0, _⟩ | ⟨g', cap, cur, h1, h2, h3, h4⟩
  · cases h0
  · cases h1
    intro i hi
    have h5 := hc i (.int .u8 0) (by simp [madeCells, Value.cells, hi, Nat.mod_one])
    rw [show (⟨g, 0, none⟩ : Addr).add i = ⟨g, i, none⟩ by unfold Addr.add; split <;> simp_all] at h5
    exact ⟨h5, frozen_of_row h3 i⟩
set_option maxRecDepth 100000 in
set_option maxHeartbeats 1000000 in
theorem Scene_any (n a b : Int) (N : Nat) (hn : n = 0 ∨ n = 1) (hN : (N : Int) = zV n) (w : World) :
    Calls Try.prog 14 #[.int .i64 n, .int .i64 a, .int .i64 b] w fun e w' => ∃ g F, e = .returned (.slice (some ⟨g, 0, none⟩) N N) ∧ w.heap.size ≤ g ∧ g < w'.heap.size ∧ Arr w' .u8 g N F ∧ Below w.heap.size w w' := by
  have ES : Hid (szV n = (N : Int)) := Lib.hid (by rw [hN]; rcases hn with rfl | rfl <;> rfl)
  have Nb : 0 < N ∧ N ≤ 152064 := by rcases hn with rfl | rfl <;> (have : (N : Int) = _ := hN; simp [zV] at this; omega)
  clear hN hn
  obtain ⟨i0, hi, hz0, hz1, hz2⟩ := info_parts info_u8
  go_enter Try.func14, Try.ntmps14
  go_wp2_with fail
  refine (size_any n _).mono ?_
  rintro e w1 ⟨rfl, rfl⟩
  rw [ES.out]
  go_wp2_with (refine wpList_make_full w rfl _ _ 24 rfl w.heap.size 5 i0 (.int .u8 0) 1 Try.underlying24 hi hz0 hz1 .i64 .i64 _ _ N rfl rfl rfl rfl (by rw [hz2]; omega) (by unfold maxLen; omega) (Nat.le_refl _) ?_; intro w1 hown hgr; have HA := Lib.hid (made_arr hown); have HB := Lib.hid ((Below.refl w.heap.size w).grown hgr (Nat.le_refl _) (fun _ e => by cases e)); clear hown hgr)
  go_loopw [8, 9] (fun X i wr => ∃ (k : Nat) (xx : Int), k ≤ N ∧ X = .int .u64 xx ∧ i = .int .i64 k ∧ (∃ F, Arr wr .u8 w.heap.size N F) ∧ Below w.heap.size w wr) (fun _ i _ => N - (intOf i).toNat)
  case atStart => exact ⟨0, _, by omega, rfl, rfl, ⟨_, HA.out⟩, HB.out⟩
  case round =>
    clear HA HB
    obtain ⟨k, xx, hk, rfl, rfl, ⟨F, hA⟩, hB⟩ := hrel
    by_cases hkn : k < N
    · have c1 := hA k hkn
      have HA := Lib.hid hA
      have HB := Lib.hid hB
      have kb : (0 : Int) ≤ (k : Int) ∧ (k : Int) < (N : Int) := by omega
      clear hA hB
      go_wp2_with fail
      go_roundw
      case rel => exact ⟨k + 1, _, by omega, rfl, by go_num, ⟨_, HA.out.set k _⟩, HB.out.setCell (p := ⟨w.heap.size, k, none⟩) (Nat.le_refl _) _⟩
      case measure => simp [intOf]; omega
    · have hk' : N ≤ k := by omega
      have HA := Lib.hid hA
      have HB := Lib.hid hB
      have hlt := hA.lt Nb.1
      clear hA hB
      go_wp2_with fail
      go_ret
      exact ⟨_, F, rfl, Nat.le_refl _, hlt, HA.out, HB.out⟩

theorem fetE_ok {N n g a k x y : Int} (hc : cE n g a = 0) (hN : N = zV n) (hk : 1 ≤ k ∧ k ≤ 6) : fetE N n g a k x y = vE n g a x y := by
  unfold fetE; rw [if_neg (by omega), if_neg (by omega), if_neg (by omega)]
theorem fet_right (f : Nat → Int) (n g a x y : Int) (k k' : Int) (h : (k = 1 ∧ k' = 2) ∨ (k = 3 ∧ k' = 4)) (i : Nat) : fetF f n g a k' (x - 8) y i = fetF f n g a k x y i := by
  have e1 : pX n g a k' (x - 8) = pX n g a k x := by unfold pX; rcases h with ⟨rfl, rfl⟩ | ⟨rfl, rfl⟩ <;> simp <;> omega
  have e2 : pY n g a k' y = pY n g a k y := by unfold pY; rcases h with ⟨rfl, rfl⟩ | ⟨rfl, rfl⟩ <;> simp
  have e3 : pD n k' = pD n k := by unfold pD; rcases h with ⟨rfl, rfl⟩ | ⟨rfl, rfl⟩ <;> simp
  have e4 : pW n k' = pW n k := by unfold pW; rcases h with ⟨rfl, rfl⟩ | ⟨rfl, rfl⟩ <;> simp
  unfold fetF; rw [e1, e2, e3, e4]
theorem fet_down (f : Nat → Int) (n g a x y : Int) (k k' : Int) (h : (k = 1 ∧ k' = 3) ∨ (k = 2 ∧ k' = 4)) (i : Nat) : fetF f n g a k' x (y - 8) i = fetF f n g a k x y i := by
  have e1 : pX n g a k' x = pX n g a k x := by unfold pX; rcases h with ⟨rfl, rfl⟩ | ⟨rfl, rfl⟩ <;> simp
  have e2 : pY n g a k' (y - 8) = pY n g a k y := by unfold pY; rcases h with ⟨rfl, rfl⟩ | ⟨rfl, rfl⟩ <;> simp <;> omega
  have e3 : pD n k' = pD n k := by unfold pD; rcases h with ⟨rfl, rfl⟩ | ⟨rfl, rfl⟩ <;> simp
  have e4 : pW n k' = pW n k := by unfold pW; rcases h with ⟨rfl, rfl⟩ | ⟨rfl, rfl⟩ <;> simp
  unfold fetF; rw [e1, e2, e3, e4]
/-- a box of three numbers, kept. -/
def Spt (w : World) (B : Nat) (n g a : Int) : Prop := w.heap[B]? = some (.cells #[.int .i64 n, .int .i64 g, .int .i64 a] 23 (0, 0))
theorem Spt.below {w w' : World} {B : Nat} {n g a : Int} (h : Spt w B n g a) (hb : Below w.heap.size w w') : Spt w' B n g a := (hb.block B (Array.getElem?_eq_some_iff.1 h).1).trans h
theorem Spt.cells {w : World} {B : Nat} {n g a : Int} (h : Spt w B n g a) : w.cell? ⟨B, 0, none⟩ = some (.int .i64 n) ∧ w.cell? ⟨B, 1, none⟩ = some (.int .i64 g) ∧ w.cell? ⟨B, 2, none⟩ = some (.int .i64 a) := cells3 h
theorem arr_slN {w : World} {g N : Nat} {F : Nat → Int} (h : Arr w .u8 g N F) (hN : 0 < N) (hm : N ≤ maxLen) : Sl .u8 w (.slice (some ⟨g, 0, none⟩) N N) N F := ⟨_, N, rfl, Nat.le_refl _, hm, .inr ⟨g, 0, rfl, h.lt hN, h.ints⟩⟩
theorem spot_in (f g a : Int) : (f % 2 = 0 ∨ f % 2 = 1) := by omega

set_option maxRecDepth 100000 in
set_option maxHeartbeats 8000000 in
theorem MotionShared_any (a0 a1 a2 a3 a4 a5 a6 : Int) (w : World) (_ : (Lit.int .i64 a0).wf = true) (_ : (Lit.int .i64 a1).wf = true) (_ : (Lit.int .i64 a2).wf = true) (_ : (Lit.int .i64 a3).wf = true) (_ : (Lit.int .i64 a4).wf = true) (_ : (Lit.int .i64 a5).wf = true) (_ : (Lit.int .i64 a6).wf = true) :
    Calls Try.prog 6 #[.int .i64 a0, .int .i64 a1, .int .i64 a2, .int .i64 a3, .int .i64 a4, .int .i64 a5, .int .i64 a6] w fun e w' => e = .returned (.bool true) ∧ Below w.heap.size w w' := by
  obtain ⟨n, hn⟩ : ∃ n, a0 % 2 = n := ⟨_, rfl⟩
  obtain ⟨g, hg⟩ : ∃ g, (if a0 % 2 = 0 then 1 + 2 * (a1 % 3) else 1 + a1 % 12) = g := ⟨_, rfl⟩
  obtain ⟨a, ha⟩ : ∃ a, 1 + a2 % 33 = a := ⟨_, rfl⟩
  obtain ⟨x0, hx0⟩ : ∃ x, a3 % 31 - 15 = x := ⟨_, rfl⟩
  obtain ⟨y0, hy0⟩ : ∃ y, a4 % 31 - 15 = y := ⟨_, rfl⟩
  have hn01 : n = 0 ∨ n = 1 := by omega
  have bx : -15 ≤ x0 ∧ x0 ≤ 15 := by omega
  have byy : -15 ≤ y0 ∧ y0 ≤ 15 := by omega
  obtain ⟨N, hN⟩ : ∃ N : Nat, (N : Int) = zV n := ⟨(zV n).toNat, by rcases hn01 with rfl | rfl <;> rfl⟩
  have Nb : 0 < N ∧ N ≤ 152064 := by rcases hn01 with rfl | rfl <;> (have : (N : Int) = _ := hN; simp [zV] at this; omega)
  have Nm : N ≤ maxLen := Nat.le_trans Nb.2 (by decide)
  have SPE : Hid ((Value.agg #[.int .i64 (a0 % 2), .int .i64 (if a0 % 2 = 0 then 1 + 2 * (a1 % 3) else 1 + a1 % 12), .int .i64 (1 + a2 % 33)]) = .agg #[.int .i64 n, .int .i64 g, .int .i64 a]) := Lib.hid (by rw [hg, ha, hn])
  have X0 : Hid (IntKind.i64.wrap (a3 % 31 - 15) = x0) := Lib.hid (by rw [hx0]; exact IntWalk.i64_in _ (by omega))
  have Y0 : Hid (IntKind.i64.wrap (a4 % 31 - 15) = y0) := Lib.hid (by rw [hy0]; exact IntWalk.i64_in _ (by omega))
  have HX0 := Lib.hid hx0
  have HY0 := Lib.hid hy0
  have HN := Lib.hid hN
  have H01 := Lib.hid hn01
  clear hn hg ha hx0 hy0 hN hn01
  go_enter Try.func6, Try.ntmps6
  go_wp2_with fail
  refine (awake_any _).mono ?_
  rintro e w1 ⟨rfl, b1⟩
  have HB := Lib.hid b1
  clear b1
  go_wp2_with fail
  refine (Spot_any a0 a1 a2 _).mono ?_
  rintro e w2 ⟨rfl, b2⟩
  rw [SPE.out]
  have HB := Lib.hid (chain HB.out b2)
  clear b2
  go_wp2_with fail
  refine (Pick_any a3 31 _ (by omega) (by omega)).mono ?_
  rintro e w3 ⟨rfl, rfl⟩
  have HS : Hid (Spt (w2.alloc (.cells #[.int .i64 n, .int .i64 g, .int .i64 a] 23)) w2.heap.size n g a) := Lib.hid (heap_alloc_new w2 _)
  have HB := Lib.hid (HB.out.alloc HB.out.size (.cells #[.int .i64 n, .int .i64 g, .int .i64 a] 23))
  obtain ⟨q3, hq3⟩ : ∃ q, a3 % 31 = q := ⟨_, rfl⟩
  rw [hq3]
  have e3 : q3 - 15 = x0 := by rw [← hq3]; exact HX0.out
  have bq3 : 0 ≤ q3 ∧ q3 < 31 := by omega
  clear hq3
  go_wp2_with fail
  refine (Pick_any a4 31 _ (by omega) (by omega)).mono ?_
  rintro e w3 ⟨rfl, rfl⟩
  obtain ⟨q4, hq4⟩ : ∃ q, a4 % 31 = q := ⟨_, rfl⟩
  rw [hq4]
  have e4 : q4 - 15 = y0 := by rw [← hq4]; exact HY0.out
  have bq4 : 0 ≤ q4 ∧ q4 < 31 := by omega
  clear hq4
  obtain ⟨s0, s1, s2⟩ := HS.out.cells
  go_wp2_with fail
  refine (Scene_any n a5 a6 N H01.out HN.out _).mono ?_
  rintro e w4 ⟨gi, F, rfl, i1, i2, hA, b4⟩
  have HS := Lib.hid (HS.out.below b4)
  have HI := Lib.hid hA
  have HB := Lib.hid (chain HB.out b4)
  clear hA b4 s0 s1 s2
  obtain ⟨s0, s1, s2⟩ := HS.out.cells
  go_wp2_with fail
  refine (Fits_any n g a x0 y0 _ (wf_small (by omega)) (wf_small (by omega))).mono ?_
  rintro e w5 ⟨rfl, b5⟩
  have HS := Lib.hid (HS.out.below b5)
  have HI := Lib.hid (HI.out.below b5 (HI.out.lt Nb.1))
  have HB := Lib.hid (chain HB.out b5)
  clear b5 s0 s1 s2
  by_cases hv : vE n g a x0 y0 = 0
  · have HC := Lib.hid (vE_zero hv).1
    have HVE := Lib.hid hv
    rw [hv]
    clear hv
    go_wp2_with fail
    go_loopw [18] (fun i wr => ∃ k : Nat, 1 ≤ k ∧ i = .int .i64 k ∧ Spt wr w2.heap.size n g a ∧ Arr wr .u8 gi N F ∧ Below w.heap.size w wr) (fun i _ => 5 - (intOf i).toNat)
    case atStart => exact ⟨1, by omega, rfl, HS.out, HI.out, HB.out⟩
    case round =>
      clear HS HI HB
      obtain ⟨k, hk, rfl, hS, hI, hB⟩ := hrel
      have HS := Lib.hid hS
      have HI := Lib.hid hI
      have HB := Lib.hid hB
      clear hS hI hB
      by_cases hk4 : k ≤ 4
      · rcases (by omega : k = 1 ∨ k = 2 ∨ k = 3 ∨ k = 4) with rfl | rfl | rfl | rfl
        · obtain ⟨s0, s1, s2⟩ := HS.out.cells
          have f0 : fetE (N : Int) n g a 1 x0 y0 = 0 := by rw [fetE_ok HC.out HN.out (by omega)]; exact HVE.out
          have n0 : fetN (N : Int) n g a 1 x0 y0 = 64 := by unfold fetN; rw [if_pos f0]
          go_wp2_with fail
          refine (Fetch_any _ N F n g a 1 x0 y0 _ (arr_slN HI.out Nb.1 Nm) (wf_small (by omega)) (wf_small (by omega))).mono ?_
          rintro e w6 ⟨v1, rfl, hR, b6⟩
          rw [f0]
          rw [n0] at hR
          have HV := Lib.hid hR
          have HS := Lib.hid (HS.out.below b6)
          have HI := Lib.hid (HI.out.below b6 (HI.out.lt Nb.1))
          have HB := Lib.hid (chain HB.out b6)
          obtain ⟨gv, cv, rfl⟩ : ∃ gv cv, v1 = .slice (some ⟨gv, 0, none⟩) 64 cv := by
            rcases hR with ⟨h0, _⟩ | ⟨gv, cv, rfl, _⟩
            · omega
            · exact ⟨gv, cv, rfl⟩
          clear hR b6 f0 n0 s0 s1 s2
          by_cases h1 : -7 ≤ x0
          · have d1 : decide (-7 ≤ x0) = true := by simp [h1]
            obtain ⟨s0, s1, s2⟩ := HS.out.cells
            go_wp2_with fail
            refine (Fits_any n g a (x0 - 8) (y0) _ (wf_small (by omega)) (wf_small (by omega))).mono ?_
            rintro e wa1 ⟨rfl, b1⟩
            have HS := Lib.hid (HS.out.below b1)
            have HI := Lib.hid (HI.out.below b1 (HI.out.lt Nb.1))
            have HV := Lib.hid (HV.out.below b1)
            have HB := Lib.hid (chain HB.out b1)
            clear b1
            by_cases v1 : vE n g a (x0 - 8) (y0) = 0
            · rw [v1]
              obtain ⟨s0, s1, s2⟩ := HS.out.cells
              go_wp2_with fail
              refine (Fetch_any _ N F n g a 2 (x0 - 8) (y0) _ (arr_slN HI.out Nb.1 Nm) (wf_small (by omega)) (wf_small (by omega))).mono ?_
              rintro e wb1 ⟨m1, rfl, hR1, c1⟩
              have f1 : fetE (N : Int) n g a 2 (x0 - 8) (y0) = 0 := by rw [fetE_ok HC.out HN.out (by omega), v1]
              have n1 : fetN (N : Int) n g a 2 (x0 - 8) (y0) = 64 := by unfold fetN; rw [if_pos f1]
              rw [f1]
              rw [n1] at hR1
              clear v1 f1 n1
              have HS := Lib.hid (HS.out.below c1)
              have HI := Lib.hid (HI.out.below c1 (HI.out.lt Nb.1))
              have HV := Lib.hid (HV.out.below c1)
              have HB := Lib.hid (chain HB.out c1)
              clear c1
              have HM := Lib.hid hR1
              clear hR1
              go_wp2_with fail
              refine (SameBytes_true _ _ 64 (fetF F n g a 1 x0 y0) (fetF F n g a 2 (x0 - 8) (y0)) _ HV.out.sl HM.out.sl (fun i _ => (fet_right F n g a x0 y0 1 2 (by omega) i).symm)).mono ?_
              rintro e wc1 ⟨rfl, rfl⟩
              clear HM
              by_cases h2 : -7 ≤ y0
              · have d2 : decide (-7 ≤ y0) = true := by simp [h2]
                obtain ⟨s0, s1, s2⟩ := HS.out.cells
                go_wp2_with fail
                refine (Fits_any n g a (x0) (y0 - 8) _ (wf_small (by omega)) (wf_small (by omega))).mono ?_
                rintro e wa2 ⟨rfl, b2⟩
                have HS := Lib.hid (HS.out.below b2)
                have HI := Lib.hid (HI.out.below b2 (HI.out.lt Nb.1))
                have HV := Lib.hid (HV.out.below b2)
                have HB := Lib.hid (chain HB.out b2)
                clear b2
                by_cases v2 : vE n g a (x0) (y0 - 8) = 0
                · rw [v2]
                  obtain ⟨s0, s1, s2⟩ := HS.out.cells
                  go_wp2_with fail
                  refine (Fetch_any _ N F n g a 3 (x0) (y0 - 8) _ (arr_slN HI.out Nb.1 Nm) (wf_small (by omega)) (wf_small (by omega))).mono ?_
                  rintro e wb2 ⟨m2, rfl, hR2, c2⟩
                  have f2 : fetE (N : Int) n g a 3 (x0) (y0 - 8) = 0 := by rw [fetE_ok HC.out HN.out (by omega), v2]
                  have n2 : fetN (N : Int) n g a 3 (x0) (y0 - 8) = 64 := by unfold fetN; rw [if_pos f2]
                  rw [f2]
                  rw [n2] at hR2
                  clear v2 f2 n2
                  have HS := Lib.hid (HS.out.below c2)
                  have HI := Lib.hid (HI.out.below c2 (HI.out.lt Nb.1))
                  have HV := Lib.hid (HV.out.below c2)
                  have HB := Lib.hid (chain HB.out c2)
                  clear c2
                  have HM := Lib.hid hR2
                  clear hR2
                  go_wp2_with fail
                  refine (SameBytes_true _ _ 64 (fetF F n g a 1 x0 y0) (fetF F n g a 3 (x0) (y0 - 8)) _ HV.out.sl HM.out.sl (fun i _ => (fet_down F n g a x0 y0 1 3 (by omega) i).symm)).mono ?_
                  rintro e wc2 ⟨rfl, rfl⟩
                  clear HM
                  obtain ⟨s0, s1, s2⟩ := HS.out.cells
                  go_wp2_with fail
                  go_roundw
                  case rel => exact ⟨2, by omega, rfl, HS.out, HI.out, HB.out⟩
                  case measure => simp [intOf]
                · have t2 : (vE n g a (x0) (y0 - 8) == 0) = false := by simp [v2]
                  clear v2
                  obtain ⟨s0, s1, s2⟩ := HS.out.cells
                  go_wp2_with fail
                  go_roundw
                  case rel => exact ⟨2, by omega, rfl, HS.out, HI.out, HB.out⟩
                  case measure => simp [intOf]
              · have d2 : decide (-7 ≤ y0) = false := by simp [h2]
                obtain ⟨s0, s1, s2⟩ := HS.out.cells
                go_wp2_with fail
                go_roundw
                case rel => exact ⟨2, by omega, rfl, HS.out, HI.out, HB.out⟩
                case measure => simp [intOf]
            · have t1 : (vE n g a (x0 - 8) (y0) == 0) = false := by simp [v1]
              clear v1
              by_cases h3 : -7 ≤ y0
              · have d3 : decide (-7 ≤ y0) = true := by simp [h3]
                obtain ⟨s0, s1, s2⟩ := HS.out.cells
                go_wp2_with fail
                refine (Fits_any n g a (x0) (y0 - 8) _ (wf_small (by omega)) (wf_small (by omega))).mono ?_
                rintro e wa3 ⟨rfl, b3⟩
                have HS := Lib.hid (HS.out.below b3)
                have HI := Lib.hid (HI.out.below b3 (HI.out.lt Nb.1))
                have HV := Lib.hid (HV.out.below b3)
                have HB := Lib.hid (chain HB.out b3)
                clear b3
                by_cases v3 : vE n g a (x0) (y0 - 8) = 0
                · rw [v3]
                  obtain ⟨s0, s1, s2⟩ := HS.out.cells
                  go_wp2_with fail
                  refine (Fetch_any _ N F n g a 3 (x0) (y0 - 8) _ (arr_slN HI.out Nb.1 Nm) (wf_small (by omega)) (wf_small (by omega))).mono ?_
                  rintro e wb3 ⟨m3, rfl, hR3, c3⟩
                  have f3 : fetE (N : Int) n g a 3 (x0) (y0 - 8) = 0 := by rw [fetE_ok HC.out HN.out (by omega), v3]
                  have n3 : fetN (N : Int) n g a 3 (x0) (y0 - 8) = 64 := by unfold fetN; rw [if_pos f3]
                  rw [f3]
                  rw [n3] at hR3
                  clear v3 f3 n3
                  have HS := Lib.hid (HS.out.below c3)
                  have HI := Lib.hid (HI.out.below c3 (HI.out.lt Nb.1))
                  have HV := Lib.hid (HV.out.below c3)
                  have HB := Lib.hid (chain HB.out c3)
                  clear c3
                  have HM := Lib.hid hR3
                  clear hR3
                  go_wp2_with fail
                  refine (SameBytes_true _ _ 64 (fetF F n g a 1 x0 y0) (fetF F n g a 3 (x0) (y0 - 8)) _ HV.out.sl HM.out.sl (fun i _ => (fet_down F n g a x0 y0 1 3 (by omega) i).symm)).mono ?_
                  rintro e wc3 ⟨rfl, rfl⟩
                  clear HM
                  obtain ⟨s0, s1, s2⟩ := HS.out.cells
                  go_wp2_with fail
                  go_roundw
                  case rel => exact ⟨2, by omega, rfl, HS.out, HI.out, HB.out⟩
                  case measure => simp [intOf]
                · have t3 : (vE n g a (x0) (y0 - 8) == 0) = false := by simp [v3]
                  clear v3
                  obtain ⟨s0, s1, s2⟩ := HS.out.cells
                  go_wp2_with fail
                  go_roundw
                  case rel => exact ⟨2, by omega, rfl, HS.out, HI.out, HB.out⟩
                  case measure => simp [intOf]
              · have d3 : decide (-7 ≤ y0) = false := by simp [h3]
                obtain ⟨s0, s1, s2⟩ := HS.out.cells
                go_wp2_with fail
                go_roundw
                case rel => exact ⟨2, by omega, rfl, HS.out, HI.out, HB.out⟩
                case measure => simp [intOf]
          · have d1 : decide (-7 ≤ x0) = false := by simp [h1]
            by_cases h4 : -7 ≤ y0
            · have d4 : decide (-7 ≤ y0) = true := by simp [h4]
              obtain ⟨s0, s1, s2⟩ := HS.out.cells
              go_wp2_with fail
              refine (Fits_any n g a (x0) (y0 - 8) _ (wf_small (by omega)) (wf_small (by omega))).mono ?_
              rintro e wa4 ⟨rfl, b4⟩
              have HS := Lib.hid (HS.out.below b4)
              have HI := Lib.hid (HI.out.below b4 (HI.out.lt Nb.1))
              have HV := Lib.hid (HV.out.below b4)
              have HB := Lib.hid (chain HB.out b4)
              clear b4
              by_cases v4 : vE n g a (x0) (y0 - 8) = 0
              · rw [v4]
                obtain ⟨s0, s1, s2⟩ := HS.out.cells
                go_wp2_with fail
                refine (Fetch_any _ N F n g a 3 (x0) (y0 - 8) _ (arr_slN HI.out Nb.1 Nm) (wf_small (by omega)) (wf_small (by omega))).mono ?_
                rintro e wb4 ⟨m4, rfl, hR4, c4⟩
                have f4 : fetE (N : Int) n g a 3 (x0) (y0 - 8) = 0 := by rw [fetE_ok HC.out HN.out (by omega), v4]
                have n4 : fetN (N : Int) n g a 3 (x0) (y0 - 8) = 64 := by unfold fetN; rw [if_pos f4]
                rw [f4]
                rw [n4] at hR4
                clear v4 f4 n4
                have HS := Lib.hid (HS.out.below c4)
                have HI := Lib.hid (HI.out.below c4 (HI.out.lt Nb.1))
                have HV := Lib.hid (HV.out.below c4)
                have HB := Lib.hid (chain HB.out c4)
                clear c4
                have HM := Lib.hid hR4
                clear hR4
                go_wp2_with fail
                refine (SameBytes_true _ _ 64 (fetF F n g a 1 x0 y0) (fetF F n g a 3 (x0) (y0 - 8)) _ HV.out.sl HM.out.sl (fun i _ => (fet_down F n g a x0 y0 1 3 (by omega) i).symm)).mono ?_
                rintro e wc4 ⟨rfl, rfl⟩
                clear HM
                obtain ⟨s0, s1, s2⟩ := HS.out.cells
                go_wp2_with fail
                go_roundw
                case rel => exact ⟨2, by omega, rfl, HS.out, HI.out, HB.out⟩
                case measure => simp [intOf]
              · have t4 : (vE n g a (x0) (y0 - 8) == 0) = false := by simp [v4]
                clear v4
                obtain ⟨s0, s1, s2⟩ := HS.out.cells
                go_wp2_with fail
                go_roundw
                case rel => exact ⟨2, by omega, rfl, HS.out, HI.out, HB.out⟩
                case measure => simp [intOf]
            · have d4 : decide (-7 ≤ y0) = false := by simp [h4]
              obtain ⟨s0, s1, s2⟩ := HS.out.cells
              go_wp2_with fail
              go_roundw
              case rel => exact ⟨2, by omega, rfl, HS.out, HI.out, HB.out⟩
              case measure => simp [intOf]
        · obtain ⟨s0, s1, s2⟩ := HS.out.cells
          have f0 : fetE (N : Int) n g a 2 x0 y0 = 0 := by rw [fetE_ok HC.out HN.out (by omega)]; exact HVE.out
          have n0 : fetN (N : Int) n g a 2 x0 y0 = 64 := by unfold fetN; rw [if_pos f0]
          go_wp2_with fail
          refine (Fetch_any _ N F n g a 2 x0 y0 _ (arr_slN HI.out Nb.1 Nm) (wf_small (by omega)) (wf_small (by omega))).mono ?_
          rintro e w6 ⟨v1, rfl, hR, b6⟩
          rw [f0]
          rw [n0] at hR
          have HV := Lib.hid hR
          have HS := Lib.hid (HS.out.below b6)
          have HI := Lib.hid (HI.out.below b6 (HI.out.lt Nb.1))
          have HB := Lib.hid (chain HB.out b6)
          obtain ⟨gv, cv, rfl⟩ : ∃ gv cv, v1 = .slice (some ⟨gv, 0, none⟩) 64 cv := by
            rcases hR with ⟨h0, _⟩ | ⟨gv, cv, rfl, _⟩
            · omega
            · exact ⟨gv, cv, rfl⟩
          clear hR b6 f0 n0 s0 s1 s2
          by_cases h5 : -7 ≤ y0
          · have d5 : decide (-7 ≤ y0) = true := by simp [h5]
            obtain ⟨s0, s1, s2⟩ := HS.out.cells
            go_wp2_with fail
            refine (Fits_any n g a (x0) (y0 - 8) _ (wf_small (by omega)) (wf_small (by omega))).mono ?_
            rintro e wa5 ⟨rfl, b5⟩
            have HS := Lib.hid (HS.out.below b5)
            have HI := Lib.hid (HI.out.below b5 (HI.out.lt Nb.1))
            have HV := Lib.hid (HV.out.below b5)
            have HB := Lib.hid (chain HB.out b5)
            clear b5
            by_cases v5 : vE n g a (x0) (y0 - 8) = 0
            · rw [v5]
              obtain ⟨s0, s1, s2⟩ := HS.out.cells
              go_wp2_with fail
              refine (Fetch_any _ N F n g a 4 (x0) (y0 - 8) _ (arr_slN HI.out Nb.1 Nm) (wf_small (by omega)) (wf_small (by omega))).mono ?_
              rintro e wb5 ⟨m5, rfl, hR5, c5⟩
              have f5 : fetE (N : Int) n g a 4 (x0) (y0 - 8) = 0 := by rw [fetE_ok HC.out HN.out (by omega), v5]
              have n5 : fetN (N : Int) n g a 4 (x0) (y0 - 8) = 64 := by unfold fetN; rw [if_pos f5]
              rw [f5]
              rw [n5] at hR5
              clear v5 f5 n5
              have HS := Lib.hid (HS.out.below c5)
              have HI := Lib.hid (HI.out.below c5 (HI.out.lt Nb.1))
              have HV := Lib.hid (HV.out.below c5)
              have HB := Lib.hid (chain HB.out c5)
              clear c5
              have HM := Lib.hid hR5
              clear hR5
              go_wp2_with fail
              refine (SameBytes_true _ _ 64 (fetF F n g a 2 x0 y0) (fetF F n g a 4 (x0) (y0 - 8)) _ HV.out.sl HM.out.sl (fun i _ => (fet_down F n g a x0 y0 2 4 (by omega) i).symm)).mono ?_
              rintro e wc5 ⟨rfl, rfl⟩
              clear HM
              obtain ⟨s0, s1, s2⟩ := HS.out.cells
              go_wp2_with fail
              go_roundw
              case rel => exact ⟨3, by omega, rfl, HS.out, HI.out, HB.out⟩
              case measure => simp [intOf]
            · have t5 : (vE n g a (x0) (y0 - 8) == 0) = false := by simp [v5]
              clear v5
              obtain ⟨s0, s1, s2⟩ := HS.out.cells
              go_wp2_with fail
              go_roundw
              case rel => exact ⟨3, by omega, rfl, HS.out, HI.out, HB.out⟩
              case measure => simp [intOf]
          · have d5 : decide (-7 ≤ y0) = false := by simp [h5]
            obtain ⟨s0, s1, s2⟩ := HS.out.cells
            go_wp2_with fail
            go_roundw
            case rel => exact ⟨3, by omega, rfl, HS.out, HI.out, HB.out⟩
            case measure => simp [intOf]
        · obtain ⟨s0, s1, s2⟩ := HS.out.cells
          have f0 : fetE (N : Int) n g a 3 x0 y0 = 0 := by rw [fetE_ok HC.out HN.out (by omega)]; exact HVE.out
          have n0 : fetN (N : Int) n g a 3 x0 y0 = 64 := by unfold fetN; rw [if_pos f0]
          go_wp2_with fail
          refine (Fetch_any _ N F n g a 3 x0 y0 _ (arr_slN HI.out Nb.1 Nm) (wf_small (by omega)) (wf_small (by omega))).mono ?_
          rintro e w6 ⟨v1, rfl, hR, b6⟩
          rw [f0]
          rw [n0] at hR
          have HV := Lib.hid hR
          have HS := Lib.hid (HS.out.below b6)
          have HI := Lib.hid (HI.out.below b6 (HI.out.lt Nb.1))
          have HB := Lib.hid (chain HB.out b6)
          obtain ⟨gv, cv, rfl⟩ : ∃ gv cv, v1 = .slice (some ⟨gv, 0, none⟩) 64 cv := by
            rcases hR with ⟨h0, _⟩ | ⟨gv, cv, rfl, _⟩
            · omega
            · exact ⟨gv, cv, rfl⟩
          clear hR b6 f0 n0 s0 s1 s2
          by_cases h6 : -7 ≤ x0
          · have d6 : decide (-7 ≤ x0) = true := by simp [h6]
            obtain ⟨s0, s1, s2⟩ := HS.out.cells
            go_wp2_with fail
            refine (Fits_any n g a (x0 - 8) (y0) _ (wf_small (by omega)) (wf_small (by omega))).mono ?_
            rintro e wa6 ⟨rfl, b6⟩
            have HS := Lib.hid (HS.out.below b6)
            have HI := Lib.hid (HI.out.below b6 (HI.out.lt Nb.1))
            have HV := Lib.hid (HV.out.below b6)
            have HB := Lib.hid (chain HB.out b6)
            clear b6
            by_cases v6 : vE n g a (x0 - 8) (y0) = 0
            · rw [v6]
              obtain ⟨s0, s1, s2⟩ := HS.out.cells
              go_wp2_with fail
              refine (Fetch_any _ N F n g a 4 (x0 - 8) (y0) _ (arr_slN HI.out Nb.1 Nm) (wf_small (by omega)) (wf_small (by omega))).mono ?_
              rintro e wb6 ⟨m6, rfl, hR6, c6⟩
              have f6 : fetE (N : Int) n g a 4 (x0 - 8) (y0) = 0 := by rw [fetE_ok HC.out HN.out (by omega), v6]
              have n6 : fetN (N : Int) n g a 4 (x0 - 8) (y0) = 64 := by unfold fetN; rw [if_pos f6]
              rw [f6]
              rw [n6] at hR6
              clear v6 f6 n6
              have HS := Lib.hid (HS.out.below c6)
              have HI := Lib.hid (HI.out.below c6 (HI.out.lt Nb.1))
              have HV := Lib.hid (HV.out.below c6)
              have HB := Lib.hid (chain HB.out c6)
              clear c6
              have HM := Lib.hid hR6
              clear hR6
              go_wp2_with fail
              refine (SameBytes_true _ _ 64 (fetF F n g a 3 x0 y0) (fetF F n g a 4 (x0 - 8) (y0)) _ HV.out.sl HM.out.sl (fun i _ => (fet_right F n g a x0 y0 3 4 (by omega) i).symm)).mono ?_
              rintro e wc6 ⟨rfl, rfl⟩
              clear HM
              obtain ⟨s0, s1, s2⟩ := HS.out.cells
              go_wp2_with fail
              go_roundw
              case rel => exact ⟨4, by omega, rfl, HS.out, HI.out, HB.out⟩
              case measure => simp [intOf]
            · have t6 : (vE n g a (x0 - 8) (y0) == 0) = false := by simp [v6]
              clear v6
              obtain ⟨s0, s1, s2⟩ := HS.out.cells
              go_wp2_with fail
              go_roundw
              case rel => exact ⟨4, by omega, rfl, HS.out, HI.out, HB.out⟩
              case measure => simp [intOf]
          · have d6 : decide (-7 ≤ x0) = false := by simp [h6]
            obtain ⟨s0, s1, s2⟩ := HS.out.cells
            go_wp2_with fail
            go_roundw
            case rel => exact ⟨4, by omega, rfl, HS.out, HI.out, HB.out⟩
            case measure => simp [intOf]
        · obtain ⟨s0, s1, s2⟩ := HS.out.cells
          have f0 : fetE (N : Int) n g a 4 x0 y0 = 0 := by rw [fetE_ok HC.out HN.out (by omega)]; exact HVE.out
          have n0 : fetN (N : Int) n g a 4 x0 y0 = 64 := by unfold fetN; rw [if_pos f0]
          go_wp2_with fail
          refine (Fetch_any _ N F n g a 4 x0 y0 _ (arr_slN HI.out Nb.1 Nm) (wf_small (by omega)) (wf_small (by omega))).mono ?_
          rintro e w6 ⟨v1, rfl, hR, b6⟩
          rw [f0]
          rw [n0] at hR
          have HV := Lib.hid hR
          have HS := Lib.hid (HS.out.below b6)
          have HI := Lib.hid (HI.out.below b6 (HI.out.lt Nb.1))
          have HB := Lib.hid (chain HB.out b6)
          obtain ⟨gv, cv, rfl⟩ : ∃ gv cv, v1 = .slice (some ⟨gv, 0, none⟩) 64 cv := by
            rcases hR with ⟨h0, _⟩ | ⟨gv, cv, rfl, _⟩
            · omega
            · exact ⟨gv, cv, rfl⟩
          clear hR b6 f0 n0 s0 s1 s2
          obtain ⟨s0, s1, s2⟩ := HS.out.cells
          go_wp2_with fail
          go_roundw
          case rel => exact ⟨5, by omega, rfl, HS.out, HI.out, HB.out⟩
          case measure => simp [intOf]
      · have HB := HB
        have d4 : decide ((k : Int) ≤ 4) = false := by simp; omega
        have hk5 : (4 : Int) < (k : Int) := by omega
        go_wp2_with fail
        go_ret
        exact ⟨rfl, HB.out⟩
  · have t0 : (vE n g a x0 y0 != 0) = true := by simp [hv]
    clear hv
    go_wp2_with fail
    go_ret
    exact ⟨rfl, HB.out⟩
end Mo
end Go.Proofs.Ytkddahboclmboaa
