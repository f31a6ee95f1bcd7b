/- LoopTurned. -/
import Derived.Test.YtkajfabmdljffaaLaw15f
import Derived.Test.YtkajfabmdljffaaPick
import Derived.BigQuiet
namespace Go.Proofs.Ytkajfabmdljffaa
open Go.RowKit
namespace Lo

/-- four blocks of the call's own. -/
def Four (w wx : World) (n : Nat) (f : Nat → Int) (g0 c0 g1 g2 g3 : Nat) : Prop :=
  (w.heap.size ≤ g0 ∧ w.heap.size ≤ g1 ∧ w.heap.size ≤ g2 ∧ w.heap.size ≤ g3) ∧ (g0 ≠ g1 ∧ g0 ≠ g2 ∧ g0 ≠ g3 ∧ g1 ≠ g2 ∧ g1 ≠ g3 ∧ g2 ≠ g3) ∧ (64 ≤ c0 ∧ c0 ≤ maxLen) ∧ Arr wx .u8 g0 64 (padF n f) ∧ (Arr wx .u8 g1 64 (fun _ => 0) ∧ Arr wx .u8 g2 64 (fun _ => 0) ∧ Arr wx .u8 g3 64 (fun _ => 0)) ∧ Below w.heap.size w wx
theorem Four.p12 {w wx : World} {n : Nat} {f : Nat → Int} {g0 c0 g1 g2 g3 : Nat} (h : Four w wx n f g0 c0 g1 g2 g3) : Four w wx n f g0 c0 g2 g1 g3 := by
  obtain ⟨⟨a1, a2, a3, a4⟩, ⟨b1, b2, b3, b4, b5, b6⟩, c, d, ⟨e1, e2, e3⟩, k⟩ := h
  exact ⟨⟨a1, a3, a2, a4⟩, ⟨b2, b1, b3, b4.symm, b6, b5⟩, c, d, ⟨e2, e1, e3⟩, k⟩
theorem Four.p23 {w wx : World} {n : Nat} {f : Nat → Int} {g0 c0 g1 g2 g3 : Nat} (h : Four w wx n f g0 c0 g1 g2 g3) : Four w wx n f g0 c0 g1 g3 g2 := by
  obtain ⟨⟨a1, a2, a3, a4⟩, ⟨b1, b2, b3, b4, b5, b6⟩, c, d, ⟨e1, e2, e3⟩, k⟩ := h
  exact ⟨⟨a1, a2, a4, a3⟩, ⟨b1, b3, b2, b5, b4, b6.symm⟩, c, d, ⟨e1, e3, e2⟩, k⟩
def FourMade (w wx : World) (n : Nat) (f : Nat → Int) (u6 u7 u8 u9 : Value) : Prop :=
  ∃ g0 c0 g1 g2 g3, u6 = .slice (some ⟨g0, 0, none⟩) 64 c0 ∧ u7 = .slice (some ⟨g1, 0, none⟩) 64 64 ∧ u8 = .slice (some ⟨g2, 0, none⟩) 64 64 ∧ u9 = .slice (some ⟨g3, 0, none⟩) 64 64 ∧ Four w wx n f g0 c0 g1 g2 g3
/-- the world behind k blocks of noughts were made. -/
def Z (t : TypeId) : Obj := .cells (rowOf .u8 64 fun _ => 0) t
section
variable {w w1 w2 : World} {n : Nat} {f : Nat → Int} {g c : Nat} {t : TypeId} (HB : Below w.heap.size w w1) (r2 : g < w2.heap.size) (r3 : 64 ≤ c) (r4 : c ≤ maxLen) (r5 : Arr w2 .u8 g 64 fun i => if i < n then f i else 0)
include HB r2 r3 r4 r5
theorem four0 (r1 : w1.drew.heap.size ≤ g) (r6 : Below w1.drew.heap.size w1.drew w2) : Four w (((w2.alloc (Z t)).alloc (Z t)).alloc (Z t)) n f g c w2.heap.size (w2.heap.size + 1) (w2.heap.size + 1 + 1) := by
  have h2 := chain HB.drew r6
  have hz := HB.size
  have hz2 := h2.size
  have hr : w1.heap.size ≤ g := r1
  have m1 := made w2 .u8 t 64 (fun _ => 0)
  have m2 := made (w2.alloc (Z t)) .u8 t 64 (fun _ => 0)
  have m3 := made ((w2.alloc (Z t)).alloc (Z t)) .u8 t 64 (fun _ => 0)
  simp only [World.size_alloc] at m2 m3
  exact ⟨⟨by omega, by omega, by omega, by omega⟩, ⟨by omega, by omega, by omega, by omega, by omega, by omega⟩, ⟨r3, r4⟩, ((Arr.alloc (f := padF n f) r5 _).alloc _).alloc _, ⟨(m1.alloc _).alloc _, m2.alloc _, m3⟩, ((h2.alloc hz2 _).alloc (by simp; omega) _).alloc (by simp; omega) _⟩
theorem four1 (r1 : (w1.alloc (Z t)).drew.heap.size ≤ g) (r6 : Below (w1.alloc (Z t)).drew.heap.size (w1.alloc (Z t)).drew w2) : Four w ((w2.alloc (Z t)).alloc (Z t)) n f g c w1.heap.size w2.heap.size (w2.heap.size + 1) := by
  have hz := HB.size
  have hs : (w1.alloc (Z t)).drew.heap.size = w1.heap.size + 1 := by show (w1.alloc (Z t)).heap.size = _; simp
  have h2 := chain ((HB.alloc hz (Z t)).drew) r6
  have hz2 := r6.size
  have m1 := (((made w1 .u8 t 64 (fun _ => 0)).drew).below r6 (by omega))
  have m2 := made w2 .u8 t 64 (fun _ => 0)
  have m3 := made (w2.alloc (Z t)) .u8 t 64 (fun _ => 0)
  simp only [World.size_alloc] at m2 m3
  exact ⟨⟨by omega, by omega, by omega, by omega⟩, ⟨by omega, by omega, by omega, by omega, by omega, by omega⟩, ⟨r3, r4⟩, (Arr.alloc (f := padF n f) r5 _).alloc _, ⟨(m1.alloc _).alloc _, m2.alloc _, m3⟩, (h2.alloc h2.size _).alloc (by simp; omega) _⟩
theorem four2 (r1 : ((w1.alloc (Z t)).alloc (Z t)).drew.heap.size ≤ g) (r6 : Below ((w1.alloc (Z t)).alloc (Z t)).drew.heap.size ((w1.alloc (Z t)).alloc (Z t)).drew w2) : Four w (w2.alloc (Z t)) n f g c w1.heap.size (w1.heap.size + 1) w2.heap.size := by
  have hz := HB.size
  have hs : ((w1.alloc (Z t)).alloc (Z t)).drew.heap.size = w1.heap.size + 1 + 1 := by show ((w1.alloc (Z t)).alloc (Z t)).heap.size = _; simp
  have h2 := chain (((HB.alloc hz (Z t)).alloc (by simp; omega) (Z t)).drew) r6
  have hz2 := r6.size
  have m1 := (((made w1 .u8 t 64 (fun _ => 0)).alloc (Z t)).drew).below r6 (by omega)
  have m2 := ((made (w1.alloc (Z t)) .u8 t 64 (fun _ => 0)).drew).below r6 (by simp only [World.size_alloc]; omega)
  have m3 := made w2 .u8 t 64 (fun _ => 0)
  simp only [World.size_alloc] at m2 m3
  exact ⟨⟨by omega, by omega, by omega, by omega⟩, ⟨by omega, by omega, by omega, by omega, by omega, by omega⟩, ⟨r3, r4⟩, (Arr.alloc (f := padF n f) r5 _), ⟨m1.alloc _, m2.alloc _, m3⟩, h2.alloc h2.size _⟩
omit r2 in
theorem four3 (r1 : (((w1.alloc (Z t)).alloc (Z t)).alloc (Z t)).drew.heap.size ≤ g) (r6 : Below (((w1.alloc (Z t)).alloc (Z t)).alloc (Z t)).drew.heap.size (((w1.alloc (Z t)).alloc (Z t)).alloc (Z t)).drew w2) : Four w w2 n f g c w1.heap.size (w1.heap.size + 1) (w1.heap.size + 1 + 1) := by
  have hz := HB.size
  have hs : (((w1.alloc (Z t)).alloc (Z t)).alloc (Z t)).drew.heap.size = w1.heap.size + 1 + 1 + 1 := by show (((w1.alloc (Z t)).alloc (Z t)).alloc (Z t)).heap.size = _; simp
  have h2 := chain ((((HB.alloc hz (Z t)).alloc (by simp; omega) (Z t)).alloc (by simp; omega) (Z t)).drew) r6
  have hz2 := r6.size
  have m1 := ((((made w1 .u8 t 64 (fun _ => 0)).alloc (Z t)).alloc (Z t)).drew).below r6 (by omega)
  have m2 := (((made (w1.alloc (Z t)) .u8 t 64 (fun _ => 0)).alloc (Z t)).drew).below r6 (by simp only [World.size_alloc]; omega)
  have m3 := ((made ((w1.alloc (Z t)).alloc (Z t)) .u8 t 64 (fun _ => 0)).drew).below r6 (by simp only [World.size_alloc]; omega)
  simp only [World.size_alloc] at m2 m3
  exact ⟨⟨by omega, by omega, by omega, by omega⟩, ⟨by omega, by omega, by omega, by omega, by omega, by omega⟩, ⟨r3, r4⟩, r5, ⟨m1, m2, m3⟩, h2⟩
end

set_option maxRecDepth 100000 in
set_option maxHeartbeats 4000000 in
theorem turned_short (v : Value) (a : Option Addr) (n cap : Nat) (hv : v = .slice a n cap) (f : Nat → Int) (more m : Int) (w : World) (hs : Sl .u8 w v n f) (hf : ∀ i, 0 ≤ f i ∧ f i ≤ 255) (hn : n ≤ 64) (hm : more % 128 = m) :
    Calls Try.prog 14 #[v, .int .i64 more] w fun e w' => e = .returned (.bool true) ∧ Below w.heap.size w w' := by
  have SL := Lib.hid hs
  have HF := Lib.hid (fun i => padF_bd (n := n) hf i)
  have mb : 0 ≤ m ∧ m < 128 := by omega
  have hmk := make64b
  subst hv
  clear hs hf
  go_enter Try.func14, Try.ntmps14
  go_wp2_with fail
  refine (known_true _).mono ?_
  rintro e w1 ⟨rfl, b1⟩
  have SL := Lib.hid (SL.out.below b1)
  have HB := Lib.hid b1
  have z1 := b1.size
  clear b1
  go_wp2_with fail
  refine (Pick_any more 128 _ (by omega) (by omega)).mono ?_
  rintro e w1' ⟨rfl, rfl⟩
  rw [hm]
  clear hm
  go_upto_region 5 with fail
  go_cut [6, 7, 8, 9] from 28 (fun u6 u7 u8 u9 wx => FourMade w wx n f u6 u7 u8 u9)
  case first =>
    go_region_with (go_at_call 43; refine (made_any _ n f _ (SL.out.below (by first | exact (Below.refl _ _).drew | exact ((Below.refl _ _).alloc (Nat.le_refl _) _).drew | exact (((Below.refl _ _).alloc (Nat.le_refl _) _).alloc (by simp) _).drew | exact ((((Below.refl _ _).alloc (Nat.le_refl _) _).alloc (by simp) _).alloc (by simp; omega) _).drew)) hn).mono ?_; rintro e w2 ⟨g1, c1, rfl, r1, r2, r3, r4, r5, r6⟩)
    all_goals (go_wp2_with fail; go_meet)
    all_goals first
      | exact ⟨_, _, _, _, _, rfl, rfl, rfl, rfl, (four0 HB.out r2 r3 r4 r5 r1 r6)⟩
      | exact ⟨_, _, _, _, _, rfl, rfl, rfl, rfl, (four0 HB.out r2 r3 r4 r5 r1 r6).p12⟩
      | exact ⟨_, _, _, _, _, rfl, rfl, rfl, rfl, (four0 HB.out r2 r3 r4 r5 r1 r6).p23⟩
      | exact ⟨_, _, _, _, _, rfl, rfl, rfl, rfl, (four0 HB.out r2 r3 r4 r5 r1 r6).p12.p23⟩
      | exact ⟨_, _, _, _, _, rfl, rfl, rfl, rfl, (four0 HB.out r2 r3 r4 r5 r1 r6).p23.p12⟩
      | exact ⟨_, _, _, _, _, rfl, rfl, rfl, rfl, (four0 HB.out r2 r3 r4 r5 r1 r6).p12.p23.p12⟩
      | exact ⟨_, _, _, _, _, rfl, rfl, rfl, rfl, (four1 HB.out r2 r3 r4 r5 r1 r6)⟩
      | exact ⟨_, _, _, _, _, rfl, rfl, rfl, rfl, (four1 HB.out r2 r3 r4 r5 r1 r6).p12⟩
      | exact ⟨_, _, _, _, _, rfl, rfl, rfl, rfl, (four1 HB.out r2 r3 r4 r5 r1 r6).p23⟩
      | exact ⟨_, _, _, _, _, rfl, rfl, rfl, rfl, (four1 HB.out r2 r3 r4 r5 r1 r6).p12.p23⟩
      | exact ⟨_, _, _, _, _, rfl, rfl, rfl, rfl, (four1 HB.out r2 r3 r4 r5 r1 r6).p23.p12⟩
      | exact ⟨_, _, _, _, _, rfl, rfl, rfl, rfl, (four1 HB.out r2 r3 r4 r5 r1 r6).p12.p23.p12⟩
      | exact ⟨_, _, _, _, _, rfl, rfl, rfl, rfl, (four2 HB.out r2 r3 r4 r5 r1 r6)⟩
      | exact ⟨_, _, _, _, _, rfl, rfl, rfl, rfl, (four2 HB.out r2 r3 r4 r5 r1 r6).p12⟩
      | exact ⟨_, _, _, _, _, rfl, rfl, rfl, rfl, (four2 HB.out r2 r3 r4 r5 r1 r6).p23⟩
      | exact ⟨_, _, _, _, _, rfl, rfl, rfl, rfl, (four2 HB.out r2 r3 r4 r5 r1 r6).p12.p23⟩
      | exact ⟨_, _, _, _, _, rfl, rfl, rfl, rfl, (four2 HB.out r2 r3 r4 r5 r1 r6).p23.p12⟩
      | exact ⟨_, _, _, _, _, rfl, rfl, rfl, rfl, (four2 HB.out r2 r3 r4 r5 r1 r6).p12.p23.p12⟩
      | exact ⟨_, _, _, _, _, rfl, rfl, rfl, rfl, (four3 HB.out r3 r4 r5 r1 r6)⟩
      | exact ⟨_, _, _, _, _, rfl, rfl, rfl, rfl, (four3 HB.out r3 r4 r5 r1 r6).p12⟩
      | exact ⟨_, _, _, _, _, rfl, rfl, rfl, rfl, (four3 HB.out r3 r4 r5 r1 r6).p23⟩
      | exact ⟨_, _, _, _, _, rfl, rfl, rfl, rfl, (four3 HB.out r3 r4 r5 r1 r6).p12.p23⟩
      | exact ⟨_, _, _, _, _, rfl, rfl, rfl, rfl, (four3 HB.out r3 r4 r5 r1 r6).p23.p12⟩
      | exact ⟨_, _, _, _, _, rfl, rfl, rfl, rfl, (four3 HB.out r3 r4 r5 r1 r6).p12.p23.p12⟩
  case rest =>
    obtain ⟨g0, c0, g1, g2, g3, rfl, rfl, rfl, rfl, ⟨p0, p1, p2, p3⟩, ⟨n01, n02, n03, n12, n13, n23⟩, ⟨r6, r7⟩, hA, ⟨hT, hM, hL⟩, hB⟩ := hcut
    have HA := Lib.hid hA
    have HT := Lib.hid hT
    have HM := Lib.hid hM
    have HL := Lib.hid hL
    have HB := Lib.hid hB
    clear hA hT hM hL hB hmk SL
    obtain ⟨F, hFe⟩ : ∃ F, F = padF n f := ⟨_, rfl⟩
    rw [← hFe] at HA HF
    clear hFe
    go_wp2_with fail
    go_loopw [10] (fun i wr => ∃ k : Nat, k ≤ 64 ∧ i = .int .i64 k ∧ Arr wr .u8 g0 64 (fun i => if i < k then F i / 2 else F i) ∧ (Arr wr .u8 g1 64 (fun _ => 0) ∧ Arr wr .u8 g2 64 (fun _ => 0) ∧ Arr wr .u8 g3 64 (fun _ => 0)) ∧ Below w.heap.size w wr) (fun i _ => 64 - (intOf i).toNat)
    case atStart => exact ⟨0, by omega, rfl, HA.out.congr (fun i _ => by simp), ⟨HT.out, HM.out, HL.out⟩, HB.out⟩
    case round =>
      obtain ⟨k, hk, rfl, hA, ⟨hT, hM, hL⟩, hB⟩ := hrel
      by_cases hk64 : k < 64
      · have cA := hA k hk64
        simp only [Nat.lt_irrefl, if_false] at cA
        have fb := HF.out k
        have kb : (0 : Int) ≤ (k : Int) ∧ (k : Int) < 64 := by omega
        have HA := Lib.hid hA
        have HT := Lib.hid hT
        have HM := Lib.hid hM
        have HL := Lib.hid hL
        have HB := Lib.hid hB
        clear hA hT hM hL hB
        go_wp2
        go_roundw
        case rel => exact ⟨k + 1, by omega, by go_num, HA.out.fill _ rfl, ⟨HT.out.far (a := ⟨g0, k, none⟩) n01 _, HM.out.far (a := ⟨g0, k, none⟩) n02 _, HL.out.far (a := ⟨g0, k, none⟩) n03 _⟩, HB.out.setCell (p := ⟨g0, k, none⟩) p0 _⟩
        case measure => simp [intOf]; omega
      · have hA' : Arr wr .u8 g0 64 (fun i => F i / 2) := by
          obtain rfl : k = 64 := by omega
          exact hA.filled
        have hk' : 64 ≤ k := by omega
        obtain ⟨H, hH⟩ : ∃ H : Nat → Int, H = fun i => F i / 2 := ⟨_, rfl⟩
        have HH : Hid (∀ i, 0 ≤ H i ∧ H i ≤ 127) := Lib.hid (fun i => by rw [hH]; have := HF.out i; exact ⟨by show 0 ≤ F i / 2; omega, by show F i / 2 ≤ 127; omega⟩)
        rw [← hH] at hA'
        have HA := Lib.hid hA'
        have HT := Lib.hid hT
        have HM := Lib.hid hM
        have HL := Lib.hid hL
        have HB := Lib.hid hB
        clear hA hT hM hL hB hA' hk hk64 hH
        go_wp2_with fail
        go_loopw [11] (fun i wr => ∃ k : Nat, k ≤ 64 ∧ i = .int .i64 k ∧ Arr wr .u8 g0 64 H ∧ (Arr wr .u8 g1 64 (fun i => if i < k then H (i % 8 * 8 + i / 8) else 0) ∧ Arr wr .u8 g2 64 (fun i => if i < k then H (i / 8 * 8 + 7 - i % 8) else 0) ∧ Arr wr .u8 g3 64 (fun i => if i < k then H i + m else 0)) ∧ Below w.heap.size w wr) (fun i _ => 64 - (intOf i).toNat)
        case atStart => exact ⟨0, by omega, rfl, HA.out, ⟨HT.out.start, HM.out.start, HL.out.start⟩, HB.out⟩
        case round =>
          obtain ⟨j, hj, rfl, hA, ⟨hT, hM, hL⟩, hB⟩ := hrel
          by_cases hj64 : j < 64
          · have cA := (hA j hj64).1
            have cA1 := (hA (j % 8 * 8 + j / 8) (by omega)).1
            have cA2 := (hA (j / 8 * 8 + 7 - j % 8) (by omega)).1
            have cT := hT j hj64
            have cM := hM j hj64
            have cL := hL j hj64
            have fb := HH.out j
            have jb : (0 : Int) ≤ (j : Int) ∧ (j : Int) < 64 := by omega
            have y1 : ((j : Int) % 8 * 8 + (j : Int) / 8).toNat = j % 8 * 8 + j / 8 := by omega
            have y2 : ((j : Int) / 8 * 8 + 7 - (j : Int) % 8).toNat = j / 8 * 8 + 7 - j % 8 := by omega
            have t1 : (j : Int).tmod 8 = (j : Int) % 8 := Int.tmod_eq_emod_of_nonneg (by omega)
            have t2 : (j : Int).tdiv 8 = (j : Int) / 8 := Int.tdiv_eq_ediv_of_nonneg (by omega)
            have q1 : (0 : Int) ≤ (j : Int) % 8 * 8 + (j : Int) / 8 ∧ (j : Int) % 8 * 8 + (j : Int) / 8 < 64 := by omega
            have q3 : (j : Int) / 8 ≤ 7 ∧ 0 ≤ (j : Int) / 8 := by omega
            have q4 : 0 ≤ (j : Int) % 8 ∧ (j : Int) % 8 ≤ 7 := by omega
            have q2 : (0 : Int) ≤ (j : Int) / 8 * 8 + 7 - (j : Int) % 8 ∧ (j : Int) / 8 * 8 + 7 - (j : Int) % 8 < 64 := by omega
            have HA := Lib.hid hA
            have HT := Lib.hid hT
            have HM := Lib.hid hM
            have HL := Lib.hid hL
            have HB := Lib.hid hB
            clear hA hT hM hL hB
            go_wp2
            go_roundw
            case rel =>
              refine ⟨j + 1, by omega, by go_num, ((HA.out.far (a := ⟨g1, j, none⟩) n01.symm _).far (a := ⟨g2, j, none⟩) n02.symm _).far (a := ⟨g3, j, none⟩) n03.symm _, ⟨?_, ?_, ?_⟩, ((HB.out.setCell (p := ⟨g1, j, none⟩) p1 _).setCell (p := ⟨g2, j, none⟩) p2 _).setCell (p := ⟨g3, j, none⟩) p3 _⟩
              · exact ((HT.out.fill _ rfl).far (a := ⟨g2, j, none⟩) n12.symm _).far (a := ⟨g3, j, none⟩) n13.symm _
              · exact (((HM.out.far (a := ⟨g1, j, none⟩) n12 _).fill _ rfl)).far (a := ⟨g3, j, none⟩) n23.symm _
              · exact ((HL.out.far (a := ⟨g1, j, none⟩) n13 _).far (a := ⟨g2, j, none⟩) n23 _).fill _ rfl
            case measure => simp [intOf]; omega
          · have hT' : Arr wr .u8 g1 64 (fun i => H (i % 8 * 8 + i / 8)) := by
              obtain rfl : j = 64 := by omega
              exact hT.filled
            have hM' : Arr wr .u8 g2 64 (fun i => H (i / 8 * 8 + 7 - i % 8)) := by
              obtain rfl : j = 64 := by omega
              exact hM.filled
            have hL' : Arr wr .u8 g3 64 (fun i => H i + m) := by
              obtain rfl : j = 64 := by omega
              exact hL.filled
            have hj' : 64 ≤ j := by omega
            have a0 := hA.lt (by omega)
            have a1 := hT.lt (by omega)
            have a2 := hM.lt (by omega)
            have a3 := hL.lt (by omega)
            have HA := Lib.hid hA
            have HT := Lib.hid hT'
            have HM := Lib.hid hM'
            have HL := Lib.hid hL'
            have HB := Lib.hid hB
            clear hA hT hM hL hB hT' hM' hL' hj hj64
            go_wp2_with fail
            refine (Filter_any _ 64 H _ (Arr.sl r6 r7 a0 HA.out) (fun i => by have := HH.out i; omega)).mono ?_
            rintro e w3 ⟨va, rfl, hR, b3⟩
            rw [show fE 64 = 0 from rfl]
            rw [show fN 64 = 64 from rfl] at hR
            rcases hR with ⟨h0, _⟩ | ⟨h1, d1, rfl, q1, q2, q3, q4, q5⟩
            · exact absurd h0 (by decide)
            have HT := Lib.hid (HT.out.below b3 a1)
            have HM := Lib.hid (HM.out.below b3 a2)
            have HL := Lib.hid (HL.out.below b3 a3)
            have RW := Lib.hid q5
            have HB := Lib.hid (chain HB.out b3)
            have zz := b3.size
            have a1 : g1 < w3.heap.size := by omega
            have a2 : g2 < w3.heap.size := by omega
            have a3 : g3 < w3.heap.size := by omega
            have l1 : h1 < w3.heap.size := q2
            clear b3 q5 zz HA
            go_wp2_with fail
            refine (Filter_any _ 64 (fun i => H (i % 8 * 8 + i / 8)) _ (Arr.sl (by decide) (by decide) a1 HT.out) (fun i => by have := HH.out (i % 8 * 8 + i / 8); omega)).mono ?_
            rintro e w4 ⟨va, rfl, hR, b4⟩
            rw [show fE 64 = 0 from rfl]
            rw [show fN 64 = 64 from rfl] at hR
            rcases hR with ⟨h0, _⟩ | ⟨h2, d2, rfl, s1, s2, s3, s4, s5⟩
            · exact absurd h0 (by decide)
            have RW := Lib.hid (RW.out.below b4 l1)
            have HM := Lib.hid (HM.out.below b4 a2)
            have HL := Lib.hid (HL.out.below b4 a3)
            have RT := Lib.hid s5
            have HB := Lib.hid (chain HB.out b4)
            have zz := b4.size
            have a2 : g2 < w4.heap.size := by omega
            have a3 : g3 < w4.heap.size := by omega
            have l1 : h1 < w4.heap.size := by omega
            clear b4 s5 zz HT
            go_wp2_with fail
            refine (Filter_any _ 64 (fun i => H (i / 8 * 8 + 7 - i % 8)) _ (Arr.sl (by decide) (by decide) a2 HM.out) (fun i => by have := HH.out (i / 8 * 8 + 7 - i % 8); omega)).mono ?_
            rintro e w5 ⟨va, rfl, hR, b5⟩
            rw [show fE 64 = 0 from rfl]
            rw [show fN 64 = 64 from rfl] at hR
            rcases hR with ⟨h0, _⟩ | ⟨h3, d3, rfl, t1, t2, t3, t4, t5⟩
            · exact absurd h0 (by decide)
            have RW := Lib.hid (RW.out.below b5 l1)
            have RT := Lib.hid (RT.out.below b5 s2)
            have HL := Lib.hid (HL.out.below b5 a3)
            have RM := Lib.hid t5
            have HB := Lib.hid (chain HB.out b5)
            have zz := b5.size
            have a3 : g3 < w5.heap.size := by omega
            have l1 : h1 < w5.heap.size := by omega
            have l2 : h2 < w5.heap.size := by omega
            clear b5 t5 zz HM
            go_wp2_with fail
            refine (Filter_any _ 64 (fun i => H i + m) _ (Arr.sl (by decide) (by decide) a3 HL.out) (fun i => by have := HH.out i; omega)).mono ?_
            rintro e w6 ⟨va, rfl, hR, b6⟩
            rw [show fE 64 = 0 from rfl]
            rw [show fN 64 = 64 from rfl] at hR
            rcases hR with ⟨h0, _⟩ | ⟨h4, d4, rfl, u1, u2, u3, u4, u5⟩
            · exact absurd h0 (by decide)
            have RW := Lib.hid (RW.out.below b6 l1)
            have RT := Lib.hid (RT.out.below b6 l2)
            have RM := Lib.hid (RM.out.below b6 t2)
            have RL := Lib.hid u5
            have HB := Lib.hid (chain HB.out b6)
            clear b6 u5 HL
            go_wp2_with fail
            go_loopw [20] (fun i wr => ∃ k : Nat, k ≤ 64 ∧ i = .int .i64 k ∧ ∃ mm, wr = w6.drewN mm) (fun i _ => 64 - (intOf i).toNat)
            case atStart => exact ⟨0, by omega, rfl, 0, rfl⟩
            case round =>
              obtain ⟨x, hx, rfl, mm, rfl⟩ := hrel
              by_cases hx64 : x < 64
              · have cT := (RT.out x hx64).1
                have cM := (RM.out x hx64).1
                have cL := (RL.out x hx64).1
                rw [filt_turned H x hx64] at cT
                rw [filt_mirrored H x hx64] at cM
                rw [filt_lighter H m x hx64] at cL
                have cW := (RW.out x hx64).1
                have cW1 := (RW.out (x % 8 * 8 + x / 8) (by omega)).1
                have cW2 := (RW.out (x / 8 * 8 + 7 - x % 8) (by omega)).1
                have fb := filt_bd (fun i => H i + m) (fun i => by have := HH.out i; omega) x
                rw [filt_lighter H m x hx64] at fb
                have fb2 := filt_bd H (fun i => by have := HH.out i; omega) x
                have xb : (0 : Int) ≤ (x : Int) ∧ (x : Int) < 64 := by omega
                have y1 : ((x : Int) % 8 * 8 + (x : Int) / 8).toNat = x % 8 * 8 + x / 8 := by omega
                have y2 : ((x : Int) / 8 * 8 + 7 - (x : Int) % 8).toNat = x / 8 * 8 + 7 - x % 8 := by omega
                have t1 : (x : Int).tmod 8 = (x : Int) % 8 := Int.tmod_eq_emod_of_nonneg (by omega)
                have t2 : (x : Int).tdiv 8 = (x : Int) / 8 := Int.tdiv_eq_ediv_of_nonneg (by omega)
                have q3 : (x : Int) / 8 ≤ 7 ∧ 0 ≤ (x : Int) / 8 := by omega
                have q4 : 0 ≤ (x : Int) % 8 ∧ (x : Int) % 8 ≤ 7 := by omega
                have q1 : (0 : Int) ≤ (x : Int) % 8 * 8 + (x : Int) / 8 ∧ (x : Int) % 8 * 8 + (x : Int) / 8 < 64 := by omega
                have q2 : (0 : Int) ≤ (x : Int) / 8 * 8 + 7 - (x : Int) % 8 ∧ (x : Int) / 8 * 8 + 7 - (x : Int) % 8 < 64 := by omega
                go_wp2_with fail
                go_quiet (fail)
                go_wp2
                go_roundw
                case rel => exact ⟨x + 1, by omega, by go_num, _, rfl⟩
                case measure => simp [intOf]; omega
              · go_wp2_with fail
                go_ret
                exact ⟨rfl, below_drewN HB.out _⟩
set_option maxRecDepth 100000 in
theorem LoopTurned_walk (a : Option Addr) (n cap : Nat) (zs : List Int) (more : Int) (w : World) (w0 : IsRow .u8 w a n cap zs) (_ : (Lit.int .i64 more).wf = true) :
    Calls Try.prog 14 #[.slice a n cap, .int .i64 more] w fun e w' => e = .returned (.bool true) ∧ Below w.heap.size w w' := by
  by_cases h : n ≤ 64
  · have hbd := byte_bd w0
    obtain ⟨hs, _⟩ := w0.sl
    exact turned_short _ a n cap rfl _ more _ w hs hbd h rfl
  · clear w0
    go_enter Try.func14, Try.ntmps14
    go_wp2_with (go_at_call 11; refine (known_true _).mono ?_; rintro e w1 ⟨rfl, hw⟩)
    go_ret
    exact ⟨rfl, hw⟩
end Lo
end Go.Proofs.Ytkajfabmdljffaa
