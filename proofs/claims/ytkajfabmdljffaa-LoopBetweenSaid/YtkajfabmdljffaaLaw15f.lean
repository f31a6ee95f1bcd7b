/- LoopTwice. -/
import Derived.Test.YtkajfabmdljffaaLaw15e
import Derived.Deep.RegionWith
import Derived.Deep.Cut
namespace Go.Proofs.Ytkajfabmdljffaa
open Go.RowKit
namespace Lo

theorem colsF_bd1 (f : Nat → Int) (h : ∀ i, 0 ≤ f i ∧ f i ≤ 255) (i : Nat) : 0 ≤ colsF f i ∧ colsF f i ≤ 1020 := by
  have := sft_lohi (fun y => f (8 * y + i % 8)) 0 255 (fun x => h _) (i / 8)
  unfold colsF; omega
theorem Arr.sl {w : World} {k : IntKind} {g c n : Nat} {f : Nat → Int} (hc : n ≤ c) (hm : c ≤ maxLen) (hg : g < w.heap.size) (h : Arr w k g n f) : Sl k w (.slice (some ⟨g, 0, none⟩) n c) n f :=
  ⟨_, c, rfl, hc, hm, .inr ⟨g, 0, rfl, hg, h.ints⟩⟩
/-- a list's first n numbers; noughts behind. -/
def padF (n : Nat) (f : Nat → Int) (i : Nat) : Int := if i < n then f i else 0
theorem padF_bd {n : Nat} {f : Nat → Int} (h : ∀ i, 0 ≤ f i ∧ f i ≤ 255) (i : Nat) : 0 ≤ padF n f i ∧ padF n f i ≤ 255 := by
  unfold padF; split
  · exact h i
  · omega
/-- behind the two blocks were made: the one by its call first. -/
def TwoMade (w wx : World) (n : Nat) (f : Nat → Int) (u4 u5 : Value) : Prop :=
  ∃ g1 g2 c1, u4 = .slice (some ⟨g1, 0, none⟩) 64 c1 ∧ u5 = .slice (some ⟨g2, 0, none⟩) 64 64 ∧ w.heap.size ≤ g1 ∧ w.heap.size ≤ g2 ∧ g1 ≠ g2 ∧ 64 ≤ c1 ∧ c1 ≤ maxLen ∧ Arr wx .u8 g1 64 (padF n f) ∧ Arr wx .i64 g2 64 (fun _ => 0) ∧ Below w.heap.size w wx
theorem two_first {w w1 w2 : World} {n : Nat} {f : Nat → Int} {g1 c1 : Nat} {t : TypeId} (HB : Below w.heap.size w w1) (r1 : w1.drew.heap.size ≤ g1) (r2 : g1 < w2.heap.size) (r3 : 64 ≤ c1) (r4 : c1 ≤ maxLen) (r5 : Arr w2 .u8 g1 64 fun i => if i < n then f i else 0) (r6 : Below w1.drew.heap.size w1.drew w2) :
    TwoMade w (w2.alloc (.cells (rowOf .i64 64 fun _ => 0) t)) n f (.slice (some ⟨g1, 0, none⟩) 64 c1) (.slice (some ⟨w2.heap.size, 0, none⟩) 64 64) := by
  have h2 := chain HB.drew r6
  have hz := HB.size
  have hr : w1.heap.size ≤ g1 := r1
  exact ⟨g1, _, c1, rfl, rfl, by omega, h2.size, by omega, r3, r4, Arr.alloc (f := padF n f) r5 _, made w2 .i64 t 64 (fun _ => 0), h2.alloc h2.size _⟩
theorem two_last {w w1 w2 : World} {n : Nat} {f : Nat → Int} {g1 c1 : Nat} {t : TypeId} (HB : Below w.heap.size w w1) (r1 : (w1.alloc (.cells (rowOf .i64 64 fun _ => 0) t)).drew.heap.size ≤ g1) (_r2 : g1 < w2.heap.size) (r3 : 64 ≤ c1) (r4 : c1 ≤ maxLen) (r5 : Arr w2 .u8 g1 64 fun i => if i < n then f i else 0) (r6 : Below (w1.alloc (.cells (rowOf .i64 64 fun _ => 0) t)).drew.heap.size (w1.alloc (.cells (rowOf .i64 64 fun _ => 0) t)).drew w2) :
    TwoMade w w2 n f (.slice (some ⟨g1, 0, none⟩) 64 c1) (.slice (some ⟨w1.heap.size, 0, none⟩) 64 64) := by
  have hz := HB.size
  have hs : (w1.alloc (.cells (rowOf .i64 64 fun _ => 0) t)).drew.heap.size = w1.heap.size + 1 := by
    show (w1.alloc (.cells (rowOf .i64 64 fun _ => 0) t)).heap.size = _
    simp
  exact ⟨g1, _, c1, rfl, rfl, by omega, hz, by omega, r3, r4, r5, ((made w1 .i64 t 64 (fun _ => 0)).drew).below r6 (by omega), chain (HB.alloc hz _).drew r6⟩

set_option maxRecDepth 100000 in
set_option maxHeartbeats 4000000 in
theorem twice_short (v : Value) (a : Option Addr) (n cap : Nat) (hv : v = .slice a n cap) (f : Nat → Int) (w : World) (hs : Sl .u8 w v n f) (hf : ∀ i, 0 ≤ f i ∧ f i ≤ 255) (hn : n ≤ 64) :
    Calls Try.prog 12 #[v] w fun e w' => e = .returned (.bool true) ∧ Below w.heap.size w w' := by
  have SL := Lib.hid hs
  have HF := Lib.hid (fun i => padF_bd (n := n) hf i)
  have hmk := make64i
  subst hv
  clear hs hf
  go_enter Try.func12, Try.ntmps12
  go_wp2_with fail
  refine (known_true _).mono ?_
  rintro e w1 ⟨rfl, b1⟩
  have SL := Lib.hid (SL.out.below b1)
  have HB := Lib.hid b1
  have z1 := b1.size
  clear b1
  go_upto_region 4 with fail
  go_cut [4, 5] from 23 (fun u4 u5 wx => TwoMade w wx n f u4 u5)
  case first =>
    go_region_with (go_at_call 43; refine (made_any _ n f _ (SL.out.below (by first | exact (Below.refl _ _).drew | exact ((Below.refl _ _).alloc (Nat.le_refl _) _).drew)) hn).mono ?_; rintro e w2 ⟨g1, c1, rfl, r1, r2, r3, r4, r5, r6⟩)
    all_goals (go_wp2_with fail; go_meet)
    all_goals first
      | exact two_first HB.out r1 r2 r3 r4 r5 r6
      | exact two_last HB.out r1 r2 r3 r4 r5 r6
  case rest =>
    obtain ⟨g1, g2, c1, rfl, rfl, r1, r2, r3, r6, r7, hA, hN, hB⟩ := hcut
    have HA := Lib.hid hA
    have HN := Lib.hid hN
    have HB := Lib.hid hB
    clear hA hN hB hmk SL
    obtain ⟨F, hFe⟩ : ∃ F, F = padF n f := ⟨_, rfl⟩
    rw [← hFe] at HA HF
    clear hFe
    go_wp2_with fail
    go_loopw [6] (fun i wr => ∃ k : Nat, k ≤ 64 ∧ i = .int .i64 k ∧ Arr wr .u8 g1 64 F ∧ Arr wr .i64 g2 64 (fun i => if i < k then F i else 0) ∧ Below w.heap.size w wr) (fun i _ => 64 - (intOf i).toNat)
    case atStart => exact ⟨0, by omega, rfl, HA.out, HN.out.start, HB.out⟩
    case round =>
      obtain ⟨k, hk, rfl, hA, hN, hB⟩ := hrel
      by_cases hk64 : k < 64
      · have cA := (hA k hk64).1
        have cN := hN k hk64
        have fb := HF.out k
        have kb : (0 : Int) ≤ (k : Int) ∧ (k : Int) < 64 := by omega
        have HA := Lib.hid hA
        have HN := Lib.hid hN
        have HB := Lib.hid hB
        clear hA hN hB
        go_wp2
        go_roundw
        case rel => exact ⟨k + 1, by omega, by go_num, HA.out.far (a := ⟨g2, k, none⟩) (fun e => r3 e.symm) _, HN.out.fill _ rfl, HB.out.setCell (p := ⟨g2, k, none⟩) r2 _⟩
        case measure => simp [intOf]; omega
      · have hN' : Arr wr .i64 g2 64 F := by
          obtain rfl : k = 64 := by omega
          exact hN.filled
        have hk' : 64 ≤ k := by omega
        have HA := Lib.hid hA
        have HN := Lib.hid hN'
        have HB := Lib.hid hB
        have l1 := hA.lt (by omega)
        have l2 := hN.lt (by omega)
        clear hA hN hB hN' hk hk64
        have HF2 : Hid (∀ i, 0 ≤ F i ∧ F i ≤ 4000) := Lib.hid (fun i => by have := HF.out i; omega)
        have HR : Hid (∀ i, 0 ≤ rowsF F i ∧ rowsF F i ≤ 4000) := Lib.hid (fun i => by have := rowsF_bd F HF.out i; omega)
        have HC : Hid (∀ i, 0 ≤ colsF F i ∧ colsF F i ≤ 4000) := Lib.hid (fun i => by have := colsF_bd1 F HF.out i; omega)
        go_wp2_with fail
        refine (Filter_any _ 64 F _ (Arr.sl r6 r7 l1 HA.out) HF.out).mono ?_
        rintro e w3 ⟨va, rfl, hR, b3⟩
        rw [show fE 64 = 0 from rfl]
        rw [show fN 64 = 64 from rfl] at hR
        rcases hR with ⟨h0, _⟩ | ⟨g3, c3, rfl, q1, q2, q3, q4, q5⟩
        · exact absurd h0 (by decide)
        have HN := Lib.hid (HN.out.below b3 l2)
        have HW := Lib.hid q5
        have HB := Lib.hid (chain HB.out b3)
        have l2 : g2 < w3.heap.size := Nat.lt_of_lt_of_le l2 b3.size
        clear b3 q5
        go_wp2_with fail
        refine (lines_rows g2 64 F _ HN.out HF2.out).mono ?_
        rintro e w4 ⟨g4, c4, rfl, s1, s2, s3, s4, s5, b4⟩
        have HN := Lib.hid (HN.out.below b4 l2)
        have HW := Lib.hid (HW.out.below b4 q2)
        have HB := Lib.hid (chain HB.out b4)
        have HRo := Lib.hid s5
        have l2 : g2 < w4.heap.size := Nat.lt_of_lt_of_le l2 b4.size
        have l3 : g3 < w4.heap.size := Nat.lt_of_lt_of_le q2 b4.size
        clear b4 s5
        go_wp2_with fail
        refine (lines_cols g2 64 F _ HN.out HF2.out).mono ?_
        rintro e w5 ⟨g5, c5, rfl, t1, t2, t3, t4, t5, b5⟩
        have HW := Lib.hid (HW.out.below b5 l3)
        have HRo := Lib.hid (HRo.out.below b5 s2)
        have HB := Lib.hid (chain HB.out b5)
        have HCo := Lib.hid t5
        have l3 : g3 < w5.heap.size := Nat.lt_of_lt_of_le l3 b5.size
        have l4 : g4 < w5.heap.size := Nat.lt_of_lt_of_le s2 b5.size
        clear b5 t5 HN
        go_wp2_with fail
        refine (lines_cols g4 c4 (rowsF F) _ HRo.out HR.out).mono ?_
        rintro e w6 ⟨g6, c6, rfl, u1, u2, u3, u4, u5, b6⟩
        have HW := Lib.hid (HW.out.below b6 l3)
        have HCo := Lib.hid (HCo.out.below b6 t2)
        have HB := Lib.hid (chain HB.out b6)
        have HO := Lib.hid u5
        have l3 : g3 < w6.heap.size := Nat.lt_of_lt_of_le l3 b6.size
        have l5 : g5 < w6.heap.size := Nat.lt_of_lt_of_le t2 b6.size
        clear b6 u5 HRo
        go_wp2_with fail
        refine (lines_rows g5 c5 (colsF F) _ HCo.out HC.out).mono ?_
        rintro e w7 ⟨g7, c7, rfl, v1, v2, v3, v4, v5, b7⟩
        have HW := Lib.hid (HW.out.below b7 l3)
        have HO := Lib.hid (HO.out.below b7 u2)
        have HB := Lib.hid (chain HB.out b7)
        have HT := Lib.hid v5
        clear b7 v5 HCo
        go_wp2_with fail
        go_loopw [17] (fun i wr => ∃ k : Nat, k ≤ 64 ∧ i = .int .i64 k ∧ ∃ m, wr = w7.drewN m) (fun i _ => 64 - (intOf i).toNat)
        case atStart => exact ⟨0, by omega, rfl, 0, rfl⟩
        case round =>
          obtain ⟨j, hj, rfl, m, rfl⟩ := hrel
          by_cases hj64 : j < 64
          · have cO := (HO.out j hj64).1
            have cT := (HT.out j hj64).1
            have cW := (HW.out j hj64).1
            rw [rows_cols F j hj64] at cT
            have bA := colsF_bd F HF.out j
            have eW : filt F j = (colsF (rowsF F) j + 8) / 16 := rfl
            rw [eW] at cW
            obtain ⟨A, hA⟩ : ∃ A, A = colsF (rowsF F) j := ⟨_, rfl⟩
            rw [← hA] at cO cT cW bA
            clear eW hA
            have jb : (0 : Int) ≤ (j : Int) ∧ (j : Int) < 64 := by omega
            go_wp2_with fail
            go_quiet (fail)
            go_wp2
            go_roundw
            case rel => exact ⟨j + 1, by omega, by go_num, _, rfl⟩
            case measure => simp [intOf]; omega
          · go_wp2
            go_ret
            exact ⟨rfl, below_drewN HB.out _⟩

theorem LoopTwice_walk (a : Option Addr) (n cap : Nat) (zs : List Int) (w : World) (w0 : IsRow .u8 w a n cap zs) :
    Calls Try.prog 12 #[.slice a n cap] w fun e w' => e = .returned (.bool true) ∧ Below w.heap.size w w' := by
  by_cases h : n ≤ 64
  · have hbd := byte_bd w0
    obtain ⟨hs, _⟩ := w0.sl
    exact twice_short _ a n cap rfl _ w hs hbd h
  · clear w0
    go_enter Try.func12, Try.ntmps12
    go_wp2_with (go_at_call 11; refine (known_true _).mono ?_; rintro e w1 ⟨rfl, hw⟩)
    go_ret
    exact ⟨rfl, hw⟩
end Lo
end Go.Proofs.Ytkajfabmdljffaa
