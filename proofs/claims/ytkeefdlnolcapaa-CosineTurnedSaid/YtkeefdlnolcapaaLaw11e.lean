/- CosineTurned. -/
import Derived.Test.YtkeefdlnolcapaaLaw11d
import Derived.Lib.MinMax
import Derived.BigRegion
import Derived.Deep.Cut
namespace Go.Proofs.Ytkeefdlnolcapaa
open Go.RowKit
namespace Co

/-- three blocks of noughts, of the call's own. -/
def Three (w wx : World) (g1 g2 g3 : Nat) : Prop :=
  (w.heap.size ≤ g1 ∧ w.heap.size ≤ g2 ∧ w.heap.size ≤ g3) ∧ (g1 ≠ g2 ∧ g1 ≠ g3 ∧ g2 ≠ g3) ∧ (Arr wx .i64 g1 64 (fun _ => 0) ∧ Arr wx .i64 g2 64 (fun _ => 0) ∧ Arr wx .i64 g3 64 (fun _ => 0)) ∧ Below w.heap.size w wx
theorem Three.p12 {w wx : World} {g1 g2 g3 : Nat} (h : Three w wx g1 g2 g3) : Three w wx g2 g1 g3 := by
  obtain ⟨⟨a2, a3, a4⟩, ⟨b4, b5, b6⟩, ⟨e1, e2, e3⟩, k⟩ := h
  exact ⟨⟨a3, a2, a4⟩, ⟨b4.symm, b6, b5⟩, ⟨e2, e1, e3⟩, k⟩
theorem Three.p23 {w wx : World} {g1 g2 g3 : Nat} (h : Three w wx g1 g2 g3) : Three w wx g1 g3 g2 := by
  obtain ⟨⟨a2, a3, a4⟩, ⟨b4, b5, b6⟩, ⟨e1, e2, e3⟩, k⟩ := h
  exact ⟨⟨a2, a4, a3⟩, ⟨b5, b4, b6.symm⟩, ⟨e1, e3, e2⟩, k⟩
theorem three_new (w : World) (t : TypeId) : Three w (((w.alloc (.cells (rowOf .i64 64 fun _ => 0) t)).alloc (.cells (rowOf .i64 64 fun _ => 0) t)).alloc (.cells (rowOf .i64 64 fun _ => 0) t)).drew w.heap.size (w.heap.size + 1) (w.heap.size + 1 + 1) := by
  have m1 := zb_new w t
  have m2 := zb_new (w.alloc (Zb t)) t
  have m3 := zb_new ((w.alloc (Zb t)).alloc (Zb t)) t
  simp only [World.size_alloc] at m2 m3
  exact ⟨⟨by omega, by omega, by omega⟩, ⟨by omega, by omega, by omega⟩, ⟨((m1.alloc _).alloc _).drew, (m2.alloc _).drew, m3.drew⟩, ((((Below.refl w.heap.size w).alloc (Nat.le_refl _) _).alloc (by simp) _).alloc (by simp; omega) _).drew⟩

theorem alt_bd (F : Nat → Int) (h : ∀ i, -2047 ≤ F i ∧ F i ≤ 2047) (i j : Nat) : -2048 ≤ F i * alt j ∧ F i * alt j ≤ 2047 := by
  have := h i
  have ha : alt j = 1 ∨ alt j = -1 := by unfold alt; omega
  rcases ha with e | e <;> rw [e] <;> omega
set_option maxRecDepth 100000 in
set_option maxHeartbeats 4000000 in
theorem turned_short (v : Value) (a : Option Addr) (n cap : Nat) (hv : v = .slice a n cap) (f : Nat → Int) (w : World) (hs : Sl .i64 w v n f) (hn : n ≤ 64) :
    Calls Try.prog 8 #[v] w fun e w' => e = .returned (.bool true) ∧ Below w.heap.size w w' := by
  have SL := Lib.hid hs
  have hmk := make64c
  subst hv
  clear hs
  go_enter Try.func8, Try.ntmps8
  go_wp2_with fail
  refine (known_true _).mono ?_
  rintro e w1 ⟨rfl, b1⟩
  have SL := Lib.hid (SL.out.below b1)
  have HB := Lib.hid b1
  clear b1
  go_wp2_with fail
  refine (made_any _ n f _ SL.out hn).mono ?_
  rintro e w2 ⟨g0, c0, rfl, r1, r2, r6, r7, r5, b2⟩
  have HA := Lib.hid r5
  have z2 := HB.out.size
  have HB := Lib.hid (chain HB.out b2)
  have p0 : w.heap.size ≤ g0 := by omega
  have zB := HB.out.size
  clear r5 b2 SL r1
  go_upto_region 5 with fail
  go_cut [5, 6, 7] from 26 (fun u5 u6 u7 wx => ∃ g1 g2 g3, u5 = .slice (some ⟨g1, 0, none⟩) 64 64 ∧ u6 = .slice (some ⟨g2, 0, none⟩) 64 64 ∧ u7 = .slice (some ⟨g3, 0, none⟩) 64 64 ∧ Three w2 wx g1 g2 g3)
  case first =>
    go_region
    all_goals (go_wp2_with fail; go_meet)
    all_goals first
      | exact ⟨_, _, _, rfl, rfl, rfl, (three_new w2 3)⟩
      | exact ⟨_, _, _, rfl, rfl, rfl, (three_new w2 3).p12⟩
      | exact ⟨_, _, _, rfl, rfl, rfl, (three_new w2 3).p23⟩
      | exact ⟨_, _, _, rfl, rfl, rfl, (three_new w2 3).p12.p23⟩
      | exact ⟨_, _, _, rfl, rfl, rfl, (three_new w2 3).p23.p12⟩
      | exact ⟨_, _, _, rfl, rfl, rfl, (three_new w2 3).p12.p23.p12⟩
  case rest =>
    obtain ⟨g1, g2, g3, rfl, rfl, rfl, ⟨p1, p2, p3⟩, ⟨n12, n13, n23⟩, ⟨hT, hM, hL⟩, hB⟩ := hcut
    have n01 : g0 ≠ g1 := by omega
    have n02 : g0 ≠ g2 := by omega
    have n03 : g0 ≠ g3 := by omega
    have p1 : w.heap.size ≤ g1 := by omega
    have p2 : w.heap.size ≤ g2 := by omega
    have p3 : w.heap.size ≤ g3 := by omega
    have HA := Lib.hid (HA.out.below hB r2)
    have HB := Lib.hid (chain HB.out hB)
    have HT := Lib.hid hT
    have HM := Lib.hid hM
    have HL := Lib.hid hL
    clear hT hM hL hB hmk
    obtain ⟨P, hP⟩ : ∃ P, P = mkP n f := ⟨_, rfl⟩
    have HP : Hid (∀ i, -2048 ≤ P i ∧ P i ≤ 2047) := Lib.hid (fun i => by rw [hP]; exact mkP_bd n f i)
    rw [← hP] at HA
    clear hP
    go_wp2_with fail
    go_loopw [8] (fun i wr => ∃ k : Nat, k ≤ 64 ∧ i = .int .i64 k ∧ Arr wr .i64 g0 64 (fun i => if i < k then max (P i) (-2047) else P i) ∧ (Arr wr .i64 g1 64 (fun _ => 0) ∧ Arr wr .i64 g2 64 (fun _ => 0) ∧ Arr wr .i64 g3 64 (fun _ => 0)) ∧ Below w.heap.size w wr) (fun i _ => 64 - (intOf i).toNat)
    case atStart => exact ⟨0, by omega, rfl, HA.out.congr (fun i _ => by simp), ⟨HT.out, HM.out, HL.out⟩, HB.out⟩
    case round =>
      obtain ⟨k, hk, rfl, hA, ⟨hT, hM, hL⟩, hB⟩ := hrel
      by_cases hk64 : k < 64
      · have cA := hA k hk64
        simp only [Nat.lt_irrefl, if_false] at cA
        obtain ⟨cA1, cA2⟩ := cA
        have kb : (0 : Int) ≤ (k : Int) ∧ (k : Int) < 64 := by omega
        have HA := Lib.hid hA
        have HT := Lib.hid hT
        have HM := Lib.hid hM
        have HL := Lib.hid hL
        have HB := Lib.hid hB
        clear hA hT hM hL hB
        go_wp2
        go_roundw
        case rel => exact ⟨k + 1, by omega, by go_num, HA.out.fill _ rfl, ⟨HT.out.far (a := ⟨g0, k, none⟩) n01 _, HM.out.far (a := ⟨g0, k, none⟩) n02 _, HL.out.far (a := ⟨g0, k, none⟩) n03 _⟩, HB.out.setCell (p := ⟨g0, k, none⟩) p0 _⟩
        case measure => simp [intOf]; omega
      · have hA' : Arr wr .i64 g0 64 (fun i => max (P i) (-2047)) := by
          obtain rfl : k = 64 := by omega
          exact hA.filled
        have hk' : 64 ≤ k := by omega
        obtain ⟨F, hF⟩ : ∃ F : Nat → Int, F = fun i => max (P i) (-2047) := ⟨_, rfl⟩
        have HF : Hid (∀ i, -2047 ≤ F i ∧ F i ≤ 2047) := Lib.hid (fun i => by rw [hF]; have := HP.out i; exact ⟨by show -2047 ≤ max (P i) (-2047); omega, by show max (P i) (-2047) ≤ 2047; omega⟩)
        rw [← hF] at hA'
        obtain ⟨FA, hFA⟩ : ∃ FA : Nat → Int, FA = fun i => F i * alt i := ⟨_, rfl⟩
        obtain ⟨FD, hFD⟩ : ∃ FD : Nat → Int, FD = fun i => F i * alt (i / 8) := ⟨_, rfl⟩
        have HFA : Hid (∀ i, -2048 ≤ FA i ∧ FA i ≤ 2047) := Lib.hid (fun i => by rw [hFA]; exact alt_bd F HF.out i i)
        have HFD : Hid (∀ i, -2048 ≤ FD i ∧ FD i ≤ 2047) := Lib.hid (fun i => by rw [hFD]; exact alt_bd F HF.out i (i / 8))
        have EFA := Lib.hid hFA
        have EFD := Lib.hid hFD
        have HA := Lib.hid hA'
        have HT := Lib.hid hT
        have HM := Lib.hid hM
        have HL := Lib.hid hL
        have HB := Lib.hid hB
        clear hA hT hM hL hB hA' hk hk64 hF hFA hFD
        go_wp2_with fail
        go_loopw [9] (fun i wr => ∃ k : Nat, k ≤ 64 ∧ i = .int .i64 k ∧ Arr wr .i64 g0 64 F ∧ (Arr wr .i64 g1 64 (fun i => if i < k then F (i % 8 * 8 + i / 8) else 0) ∧ Arr wr .i64 g2 64 (fun i => if i < k then FA i else 0) ∧ Arr wr .i64 g3 64 (fun i => if i < k then FD i else 0)) ∧ Below w.heap.size w wr) (fun i _ => 64 - (intOf i).toNat)
        case atStart => exact ⟨0, by omega, rfl, HA.out, ⟨HT.out.start, HM.out.start, HL.out.start⟩, HB.out⟩
        case round =>
          obtain ⟨j, hj, rfl, hA, ⟨hT, hM, hL⟩, hB⟩ := hrel
          by_cases hj64 : j < 64
          · have cA := (hA j hj64).1
            have cA1 := (hA (j % 8 * 8 + j / 8) (by omega)).1
            have cT := hT j hj64
            have cM := hM j hj64
            have cL := hL j hj64
            have jb : (0 : Int) ≤ (j : Int) ∧ (j : Int) < 64 := by omega
            have y1 : ((j : Int) % 8 * 8 + (j : Int) / 8).toNat = j % 8 * 8 + j / 8 := by omega
            have t1 : (j : Int).tmod 8 = (j : Int) % 8 := Int.tmod_eq_emod_of_nonneg (by omega)
            have t2 : (j : Int).tdiv 8 = (j : Int) / 8 := Int.tdiv_eq_ediv_of_nonneg (by omega)
            have t3 : (j : Int).tmod 2 = (j : Int) % 2 := Int.tmod_eq_emod_of_nonneg (by omega)
            have t4 : ((j : Int) / 8).tmod 2 = (j : Int) / 8 % 2 := Int.tmod_eq_emod_of_nonneg (by omega)
            have q3 : (j : Int) / 8 ≤ 7 ∧ 0 ≤ (j : Int) / 8 := by omega
            have q4 : 0 ≤ (j : Int) % 8 ∧ (j : Int) % 8 ≤ 7 := by omega
            have q1 : (0 : Int) ≤ (j : Int) % 8 * 8 + (j : Int) / 8 ∧ (j : Int) % 8 * 8 + (j : Int) / 8 < 64 := by omega
            have e1 : F j * (1 - 2 * ((j : Int) % 2)) = FA j := by rw [EFA.out]; show _ = F j * alt j; unfold alt; push_cast; rfl
            have e2 : F j * (1 - 2 * ((j : Int) / 8 % 2)) = FD j := by rw [EFD.out]; show _ = F j * alt (j / 8); unfold alt; push_cast; rfl
            have f1 := HFA.out j
            have f2 := HFD.out j
            have HA := Lib.hid hA
            have HT := Lib.hid hT
            have HM := Lib.hid hM
            have HL := Lib.hid hL
            have HB := Lib.hid hB
            clear hA hT hM hL hB
            go_wp2
            go_roundw
            case rel =>
              refine ⟨j + 1, by omega, by go_num, ((HA.out.far (a := ⟨g1, j, none⟩) n01.symm _).far (a := ⟨g2, j, none⟩) n02.symm _).far (a := ⟨g3, j, none⟩) n03.symm _, ⟨?_, ?_, ?_⟩, ((HB.out.setCell (p := ⟨g1, j, none⟩) p1 _).setCell (p := ⟨g2, j, none⟩) p2 _).setCell (p := ⟨g3, j, none⟩) p3 _⟩
              · exact ((HT.out.fill _ rfl).far (a := ⟨g2, j, none⟩) n12.symm _).far (a := ⟨g3, j, none⟩) n13.symm _
              · exact (((HM.out.far (a := ⟨g1, j, none⟩) n12 _).fill _ rfl)).far (a := ⟨g3, j, none⟩) n23.symm _
              · exact ((HL.out.far (a := ⟨g1, j, none⟩) n13 _).far (a := ⟨g2, j, none⟩) n23 _).fill _ rfl
            case measure => simp [intOf]; omega
          · have hT' : Arr wr .i64 g1 64 (fun i => F (i % 8 * 8 + i / 8)) := by
              obtain rfl : j = 64 := by omega
              exact hT.filled
            have hM' : Arr wr .i64 g2 64 FA := by
              obtain rfl : j = 64 := by omega
              exact hM.filled
            have hL' : Arr wr .i64 g3 64 FD := by
              obtain rfl : j = 64 := by omega
              exact hL.filled
            have hj' : 64 ≤ j := by omega
            have a0 := hA.lt (by omega)
            have a1 := hT.lt (by omega)
            have a2 := hM.lt (by omega)
            have a3 := hL.lt (by omega)
            have HA := Lib.hid hA
            have HT := Lib.hid hT'
            have HM := Lib.hid hM'
            have HL := Lib.hid hL'
            have HB := Lib.hid hB
            have HF0 : Hid (∀ i, -2048 ≤ F i ∧ F i ≤ 2047) := Lib.hid (fun i => by have := HF.out i; omega)
            have HF1 : Hid (∀ i, -2048 ≤ (fun i => F (i % 8 * 8 + i / 8)) i ∧ (fun i => F (i % 8 * 8 + i / 8)) i ≤ 2047) := Lib.hid (fun i => HF0.out _)
            clear hA hT hM hL hB hT' hM' hL' hj hj64
            go_wp2_with fail
            refine (Inverse_any _ 64 F _ (Arr.sl r6 r7 a0 HA.out)).mono ?_
            rintro e w3 ⟨va, rfl, hR, bb⟩
            rw [vE_ok (bd_ok HF0.out)]
            rw [vN_ok (bd_ok HF0.out)] at hR
            rcases hR with ⟨h0, _⟩ | ⟨h1, d1, rfl, _, q1, _, _, q5⟩
            · exact absurd h0 (by decide)
            have HT := Lib.hid (HT.out.below bb a1)
            have HM := Lib.hid (HM.out.below bb a2)
            have HL := Lib.hid (HL.out.below bb a3)
            have R1 := Lib.hid q5
            have HB := Lib.hid (chain HB.out bb)
            have zz := bb.size
            have a1 := Nat.lt_of_lt_of_le a1 zz
            have a2 := Nat.lt_of_lt_of_le a2 zz
            have a3 := Nat.lt_of_lt_of_le a3 zz
            clear bb q5 zz
            go_wp2_with fail
            refine (Inverse_any _ 64 (fun i => F (i % 8 * 8 + i / 8)) _ (Arr.sl (by decide) (by decide) a1 HT.out)).mono ?_
            rintro e w4 ⟨va, rfl, hR, bb⟩
            rw [vE_ok (bd_ok HF1.out)]
            rw [vN_ok (bd_ok HF1.out)] at hR
            rcases hR with ⟨h0, _⟩ | ⟨h2, d2, rfl, _, q2, _, _, q5⟩
            · exact absurd h0 (by decide)
            have R1 := Lib.hid (R1.out.below bb q1)
            have HM := Lib.hid (HM.out.below bb a2)
            have HL := Lib.hid (HL.out.below bb a3)
            have R2 := Lib.hid q5
            have HB := Lib.hid (chain HB.out bb)
            have zz := bb.size
            have q1 := Nat.lt_of_lt_of_le q1 zz
            have a2 := Nat.lt_of_lt_of_le a2 zz
            have a3 := Nat.lt_of_lt_of_le a3 zz
            clear bb q5 zz
            go_wp2_with fail
            refine (Inverse_any _ 64 FA _ (Arr.sl (by decide) (by decide) a2 HM.out)).mono ?_
            rintro e w5 ⟨va, rfl, hR, bb⟩
            rw [vE_ok (bd_ok HFA.out)]
            rw [vN_ok (bd_ok HFA.out)] at hR
            rcases hR with ⟨h0, _⟩ | ⟨h3, d3, rfl, _, q3, _, _, q5⟩
            · exact absurd h0 (by decide)
            have R1 := Lib.hid (R1.out.below bb q1)
            have R2 := Lib.hid (R2.out.below bb q2)
            have HL := Lib.hid (HL.out.below bb a3)
            have R3 := Lib.hid q5
            have HB := Lib.hid (chain HB.out bb)
            have zz := bb.size
            have q1 := Nat.lt_of_lt_of_le q1 zz
            have q2 := Nat.lt_of_lt_of_le q2 zz
            have a3 := Nat.lt_of_lt_of_le a3 zz
            clear bb q5 zz
            go_wp2_with fail
            refine (Inverse_any _ 64 FD _ (Arr.sl (by decide) (by decide) a3 HL.out)).mono ?_
            rintro e w6 ⟨va, rfl, hR, bb⟩
            rw [vE_ok (bd_ok HFD.out)]
            rw [vN_ok (bd_ok HFD.out)] at hR
            rcases hR with ⟨h0, _⟩ | ⟨h4, d4, rfl, _, q4, _, _, q5⟩
            · exact absurd h0 (by decide)
            have R1 := Lib.hid (R1.out.below bb q1)
            have R2 := Lib.hid (R2.out.below bb q2)
            have R3 := Lib.hid (R3.out.below bb q3)
            have R4 := Lib.hid q5
            have HB := Lib.hid (chain HB.out bb)
            have zz := bb.size
            have q1 := Nat.lt_of_lt_of_le q1 zz
            have q2 := Nat.lt_of_lt_of_le q2 zz
            have q3 := Nat.lt_of_lt_of_le q3 zz
            clear bb q5 zz
            have FB : Hid (Bd F) := Lib.hid (bd_Bd HF0.out)
            go_wp2_with fail
            go_loopw [18] (fun i wr => ∃ k : Nat, k ≤ 64 ∧ i = .int .i64 k ∧ ∃ mm, wr = w6.drewN mm) (fun i _ => 64 - (intOf i).toNat)
            case atStart => exact ⟨0, by omega, rfl, 0, rfl⟩
            case round =>
              obtain ⟨x, hx, rfl, mm, rfl⟩ := hrel
              by_cases hx64 : x < 64
              · have cT := (R2.out x hx64).1
                have cM := (R3.out x hx64).1
                have cL := (R4.out x hx64).1
                rw [inv_turned F FB.out x hx64] at cT
                rw [EFA.out, inv_across F FB.out x hx64] at cM
                rw [EFD.out, inv_down F FB.out x hx64] at cL
                have cW1 := (R1.out (x % 8 * 8 + x / 8) (by omega)).1
                have cW2 := (R1.out (x / 8 * 8 + 7 - x % 8) (by omega)).1
                have cW3 := (R1.out ((7 - x / 8) * 8 + x % 8) (by omega)).1
                have xb : (0 : Int) ≤ (x : Int) ∧ (x : Int) < 64 := by omega
                have t1 : (x : Int).tmod 8 = (x : Int) % 8 := Int.tmod_eq_emod_of_nonneg (by omega)
                have t2 : (x : Int).tdiv 8 = (x : Int) / 8 := Int.tdiv_eq_ediv_of_nonneg (by omega)
                have q3 : (x : Int) / 8 ≤ 7 ∧ 0 ≤ (x : Int) / 8 := by omega
                have q4 : 0 ≤ (x : Int) % 8 ∧ (x : Int) % 8 ≤ 7 := by omega
                have y1 : ((x : Int) % 8 * 8 + (x : Int) / 8).toNat = x % 8 * 8 + x / 8 := by omega
                have y2 : ((x : Int) / 8 * 8 + 7 - (x : Int) % 8).toNat = x / 8 * 8 + 7 - x % 8 := by omega
                have y3 : ((7 - (x : Int) / 8) * 8 + (x : Int) % 8).toNat = (7 - x / 8) * 8 + x % 8 := by omega
                have q1 : (0 : Int) ≤ (x : Int) % 8 * 8 + (x : Int) / 8 ∧ (x : Int) % 8 * 8 + (x : Int) / 8 < 64 := by omega
                have q2 : (0 : Int) ≤ (x : Int) / 8 * 8 + 7 - (x : Int) % 8 ∧ (x : Int) / 8 * 8 + 7 - (x : Int) % 8 < 64 := by omega
                have q5 : (0 : Int) ≤ (7 - (x : Int) / 8) * 8 + (x : Int) % 8 ∧ (7 - (x : Int) / 8) * 8 + (x : Int) % 8 < 64 := by omega
                go_wp2_with fail
                go_quiet (fail)
                go_wp2
                go_roundw
                case rel => exact ⟨x + 1, by omega, by go_num, _, rfl⟩
                case measure => simp [intOf]; omega
              · go_wp2_with fail
                go_ret
                exact ⟨rfl, below_drewN HB.out _⟩
set_option maxRecDepth 100000 in
theorem CosineTurned_walk (a : Option Addr) (n cap : Nat) (zs : List Int) (w : World) (w0 : IsRow .i64 w a n cap zs) :
    Calls Try.prog 8 #[.slice a n cap] w fun e w' => e = .returned (.bool true) ∧ Below w.heap.size w w' := by
  obtain ⟨hs, _⟩ := w0.sl
  by_cases h : n ≤ 64
  · exact turned_short _ a n cap rfl _ w hs h
  · clear hs w0
    go_enter Try.func8, Try.ntmps8
    go_wp2_with (go_at_call 6; refine (known_true _).mono ?_; rintro e w1 ⟨rfl, hw⟩)
    go_ret
    exact ⟨rfl, hw⟩
end Co
end Go.Proofs.Ytkeefdlnolcapaa
