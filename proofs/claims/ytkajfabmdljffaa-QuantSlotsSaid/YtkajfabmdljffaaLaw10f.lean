/- QuantSlots. -/
import Derived.Test.YtkajfabmdljffaaLaw10e
import Derived.Test.YtkajfabmdljffaaLaw10b
import Derived.Test.YtkajfabmdljffaaArr
import Derived.Deep.RegionHeld3
namespace Go.Proofs.Ytkajfabmdljffaa
open Go.RowKit
namespace Qu

theorem make64 (w : World) : (Instr.makeSlice 35 (.int .i64 64) (.int .i64 64)).run Try.prog w = .ok (.slice (some ⟨w.heap.size, 0, none⟩) 64 64) (w.alloc (.cells (rowOf .i64 64 (fun _ => 0)) 3)) := by kernel_rfl
theorem Arr.made (w : World) (k : IntKind) (t : TypeId) (n : Nat) (f : Nat → Int) : Arr (w.alloc (.cells (rowOf k n f) t)) k w.heap.size n f := Arr.new w k _ t n f fun i hi => rowOf_get k n f i hi
theorem keep3 {b1 o1 b2 o2 b3 o3 : Nat} {x1 x2 x3 : Value} {w2 w3 : World} (h : w2.cell? ⟨b1, o1, none⟩ = some x1 ∧ w2.cell? ⟨b2, o2, none⟩ = some x2 ∧ w2.cell? ⟨b3, o3, none⟩ = some x3 ∧ b1 < w2.heap.size ∧ b2 < w2.heap.size ∧ b3 < w2.heap.size) (hw : Below w2.heap.size w2 w3) : w3.cell? ⟨b1, o1, none⟩ = some x1 ∧ w3.cell? ⟨b2, o2, none⟩ = some x2 ∧ w3.cell? ⟨b3, o3, none⟩ = some x3 ∧ b1 < w3.heap.size ∧ b2 < w3.heap.size ∧ b3 < w3.heap.size := by
  obtain ⟨h1, h2, h3, h4, h5, h6⟩ := h
  exact ⟨(hw.cell (p := ⟨b1, o1, none⟩) h4).trans h1, (hw.cell (p := ⟨b2, o2, none⟩) h5).trans h2, (hw.cell (p := ⟨b3, o3, none⟩) h6).trans h3, Nat.lt_of_lt_of_le h4 hw.size, Nat.lt_of_lt_of_le h5 hw.size, Nat.lt_of_lt_of_le h6 hw.size⟩
def slotsF (p : Nat) (lv ot : Int) (i : Nat) : Int := if i = p then lv else ot

set_option maxRecDepth 100000 in
set_option maxHeartbeats 1000000 in
theorem slots_walk (a0 a1 a2 a3 a4 : Int) (p : Nat) (lv ot q c : Int) (w : World) (h0 : (p : Int) = a0 % 64) (h1 : lv = a1 % 255 - 127) (h2 : q = 1 + a3 % 31) (h3 : ot = a2 % 255 - 127) (h4 : c = 1 + a4 % 254) (h5 : c ≠ 128) (hp : p < 64) :
    Calls Try.prog 9 #[.int .i64 a0, .int .i64 a1, .int .i64 a2, .int .i64 a3, .int .i64 a4] w fun e w' => e = .returned (.bool true) ∧ Below w.heap.size w w' := by
  have m1 := Int.emod_nonneg a1 (show (255 : Int) ≠ 0 by omega)
  have m2 := Int.emod_lt_of_pos a1 (show (0 : Int) < 255 by omega)
  have m3 := Int.emod_nonneg a3 (show (31 : Int) ≠ 0 by omega)
  have m4 := Int.emod_lt_of_pos a3 (show (0 : Int) < 31 by omega)
  have m5 := Int.emod_nonneg a2 (show (255 : Int) ≠ 0 by omega)
  have m6 := Int.emod_lt_of_pos a2 (show (0 : Int) < 255 by omega)
  have m7 := Int.emod_nonneg a4 (show (254 : Int) ≠ 0 by omega)
  have m8 := Int.emod_lt_of_pos a4 (show (0 : Int) < 254 by omega)
  have bq : 1 ≤ q ∧ q ≤ 31 := by omega
  have bc : 1 ≤ c ∧ c ≤ 254 := by omega
  have okf : ∀ i, okB (slotsF p lv ot i) q = true := by
    intro i
    unfold slotsF
    split
    · exact okB_mk (by omega) (by omega) bq.1 bq.2
    · exact okB_mk (by omega) (by omega) bq.1 bq.2
  have hall : okAll (slotsF p lv ot) q 64 = true := by unfold okAll; rw [List.all_eq_true]; intro i _; exact okf i
  have hie : iE 64 (slotsF p lv ot) q = 0 := by unfold iE; rw [if_pos rfl, hall]; rfl
  have hin : iN 64 (slotsF p lv ot) q = 64 := by unfold iN; rw [if_pos rfl, hall]; rfl
  have hdc : dcE c = 0 := by
    rcases dc_cases c with ⟨h, e1, e2⟩ | ⟨h, e1, e2⟩ | ⟨h, e1, e2⟩ | ⟨h, e1, e2⟩ | ⟨h, e1, e2⟩ | ⟨h, h2, h3, e1, e2⟩ <;> omega
  have hdv : dcV c = 8 * c := by
    rcases dc_cases c with ⟨h, e1, e2⟩ | ⟨h, e1, e2⟩ | ⟨h, e1, e2⟩ | ⟨h, e1, e2⟩ | ⟨h, e1, e2⟩ | ⟨h, h2, h3, e1, e2⟩ <;> omega
  have hae : aE 64 (slotsF p lv ot) q c = 0 := by unfold aE; rw [if_pos hie, hdc]
  have han : aN 64 (slotsF p lv ot) q c = 64 := by unfold aN; rw [if_pos ⟨hie, hdc⟩]
  have k128 : (c == 128) = false := by simp; exact h5
  have x0 : a0 % 64 = (p : Int) := h0.symm
  have x4 : 1 + a4 % 254 = c := h4.symm
  have hb := Below.refl w.heap.size w
  have hmk := make64
  have H1 := Lib.hid h1
  have H2 := Lib.hid h2
  have H3 := Lib.hid h3
  have OKF := Lib.hid okf
  have IE := Lib.hid hie
  have IN := Lib.hid hin
  have AE := Lib.hid hae
  have AN := Lib.hid han
  have DV := Lib.hid hdv
  clear h0 h1 h2 h3 h4 h5 okf hall hie hin hdc hdv hae han m1 m2 m3 m4 m5 m6 m7 m8
  go_enter Try.func9, Try.ntmps9
  go_wp2_with (first
    | (go_at_call 21; refine (awake_true _).mono ?_; rintro e w1 ⟨rfl, hw⟩; have hb := hb.trans (hw.mono hb.size))
    | (go_at_call 25; with_reducible refine (of_is a1 a3 lv q _ H1.out H2.out).mono ?_; rintro e w1 ⟨rfl, rfl⟩)
    | (go_at_call 25; with_reducible refine (of_is a2 0 ot 1 _ H3.out rfl).mono ?_; rintro e w1 ⟨rfl, rfl⟩)
    | (go_at_call 26; refine (Pick_any _ _ _ (by omega) (by omega)).mono ?_; rintro e w1 ⟨rfl, rfl⟩))
  have hz1 := hb.size
  have HB1 := Lib.hid hb
  clear hb hw hmk
  go_loopw [13] (fun i wr => ∃ k : Nat, k ≤ 64 ∧ i = .int .i64 k ∧ Arr wr .i64 w1.heap.size 64 (fun i => if i < k then ot else 0) ∧ Below w.heap.size w wr) (fun i _ => 64 - (intOf i).toNat)
  case atStart => exact ⟨0, by omega, rfl, (Arr.made w1 .i64 3 64 (fun _ => 0)).start, HB1.out.alloc hz1 _⟩
  case round =>
    obtain ⟨k, hk, rfl, hA, hB⟩ := hrel
    by_cases hk64 : k < 64
    · have ck := hA k hk64
      have HA := Lib.hid hA
      have HB := Lib.hid hB
      clear hA hB
      go_wp2
      go_roundw
      case rel => exact ⟨k + 1, by omega, by go_num, HA.out.fill ot rfl, HB.out.setCell hz1 _⟩
      case measure => simp [intOf]; omega
    · have hA' : Arr wr .i64 w1.heap.size 64 (fun _ => ot) := by
        obtain rfl : k = 64 := by omega
        exact hA.filled
      have hk64' : 64 ≤ k := by omega
      have cp := hA' p hp
      have bp : (0 : Int) ≤ (p : Int) ∧ (p : Int) < 64 := by omega
      have hA2 : Arr (wr.setCell ⟨w1.heap.size, p, none⟩ (.int .i64 lv)) .i64 w1.heap.size 64 (slotsF p lv ot) := (hA'.set p lv).congr fun i _ => rfl
      have hB2 : Below w.heap.size w (wr.setCell ⟨w1.heap.size, p, none⟩ (.int .i64 lv)) := hB.setCell hz1 _
      have hlt : w1.heap.size < (wr.setCell ⟨w1.heap.size, p, none⟩ (.int .i64 lv)).heap.size := hA2.lt (by omega)
      have RI : Hid (Res .i64 w1.heap.size (wr.setCell ⟨w1.heap.size, p, none⟩ (.int .i64 lv)) (.slice (some ⟨w1.heap.size, 0, none⟩) 64 64) 64 (slotsF p lv ot)) :=
        Lib.hid (.inr ⟨_, _, rfl, Nat.le_refl _, hlt, Nat.le_refl _, by decide, hA2⟩)
      have HB := Lib.hid hB2
      have RL := Lib.hid hA2
      clear hA hA' hB hk hk64 hA2 hB2
      go_wp2_with fail
      refine (Inter_any _ 64 (slotsF p lv ot) _ _ RI.out.sl).mono ?_
      rintro e w2 ⟨va, rfl, hR, b2⟩
      rw [IE.out]
      rw [IN.out] at hR
      rcases hR with ⟨hbad, _⟩ | ⟨ga, ca, rfl, ra1, ra2, ra3, ra4, ra5⟩
      · exact absurd hbad (by decide)
      have RI := Lib.hid (RI.out.below b2)
      have RL := Lib.hid (RL.out.below b2 hlt)
      have RA := Lib.hid ra5
      have HB := Lib.hid (HB.out.trans (b2.mono HB.out.size))
      have lt2 : w1.heap.size < w2.heap.size := Nat.lt_of_lt_of_le hlt b2.size
      clear b2 ra5
      go_wp2_with fail
      refine (Intra_any _ 64 (slotsF p lv ot) _ _ _ RI.out.sl).mono ?_
      rintro e w3 ⟨vb, rfl, hR, b3⟩
      rw [AE.out]
      rw [AN.out] at hR
      rcases hR with ⟨hbad, _⟩ | ⟨gb, cb, rfl, rb1, rb2, rb3, rb4, rb5⟩
      · exact absurd hbad (by decide)
      have RL := Lib.hid (RL.out.below b3 lt2)
      have RA := Lib.hid (RA.out.below b3 ra2)
      have RB := Lib.hid rb5
      have HB := Lib.hid (HB.out.trans (b3.mono HB.out.size))
      have lt3 : w1.heap.size < w3.heap.size := Nat.lt_of_lt_of_le lt2 b3.size
      have ga3 : ga < w3.heap.size := Nat.lt_of_lt_of_le ra2 b3.size
      clear b3 rb5
      go_wp2
      clear RI hlt cp ra1 rb1
      go_loopw [18] (fun i wr => ∃ j : Nat, j ≤ 64 ∧ i = .int .i64 j ∧ Below w3.heap.size w3 wr) (fun i _ => 64 - (intOf i).toNat)
      case atStart => exact ⟨0, by omega, rfl, Below.refl _ _⟩
      case round =>
        obtain ⟨j, hj, rfl, hX⟩ := hrel
        by_cases hj64 : j < 64
        · obtain ⟨x, hx⟩ : ∃ x, x = slotsF p lv ot j := ⟨_, rfl⟩
          obtain ⟨y, hy⟩ : ∃ y, y = val x q := ⟨_, rfl⟩
          have okx : okB x q = true := by rw [hx]; exact OKF.out j
          have v1 : vV x q = y := by rw [vV_yes okx, hy]
          have v2 : vE x q = 0 := vE_yes okx
          have el : wr.cell? ⟨w1.heap.size, j, none⟩ = some (.int .i64 x) := by rw [hx]; exact (RL.out.below hX lt3 j hj64).1
          have ea : wr.cell? ⟨ga, j, none⟩ = some (.int .i64 y) := by rw [hy, hx]; exact (RA.out.below hX ga3 j hj64).1
          have l1 : w1.heap.size < wr.heap.size := Nat.lt_of_lt_of_le lt3 hX.size
          have l2 : ga < wr.heap.size := Nat.lt_of_lt_of_le ga3 hX.size
          have l3 : gb < wr.heap.size := Nat.lt_of_lt_of_le rb2 hX.size
          have bj : (0 : Int) ≤ (j : Int) ∧ (j : Int) < 64 := by omega
          have V1 := Lib.hid v1
          have V2 := Lib.hid v2
          have HX := Lib.hid hX
          by_cases hj0 : j = 0
          · subst hj0
            have eb : wr.cell? ⟨gb, 0, none⟩ = some (.int .i64 (8 * c)) := by
              have := (RB.out.below hX rb2 0 (by omega)).1
              rw [show aV (slotsF p lv ot) q c 0 = 8 * c by unfold aV; rw [if_pos rfl, DV.out]] at this
              exact this
            clear v1 v2 okx hx hy hX
            have cl := Past.cell el
            have ca := Past.cell ea
            have cb := Past.cell eb
            clear el ea eb
            go_wp2_with fail
            refine wp_region_past (by kernel_rfl) (by kernel_rfl) ?_
            repeat (go_big_quiet_step ((go_at_call 22; exact past_call (values_true x q y _ V1.out V2.out))))
            refine wpQuiet_nil ?_
            rintro _ ⟨⟨w4, h4⟩, rfl⟩
            have HW4 := Lib.hid h4
            clear h4
            go_wp2
            go_roundw
            case rel => exact ⟨1, by omega, by go_num, HX.out.trans (HW4.out.mono HX.out.size)⟩
            case measure => simp [intOf]
          · have eb : wr.cell? ⟨gb, j, none⟩ = some (.int .i64 y) := by
              have := (RB.out.below hX rb2 j hj64).1
              rw [show aV (slotsF p lv ot) q c j = y by unfold aV; rw [if_neg hj0, hy, hx]] at this
              exact this
            have dj : (0 : Int) < (j : Int) := by omega
            have dj2 : decide (0 < j) = true := by simp; omega
            clear v1 v2 okx hx hy hX
            have cl := Past.cell el
            have ca := Past.cell ea
            have cb := Past.cell eb
            clear el ea eb
            go_wp2_with fail
            refine wp_region_past (by kernel_rfl) (by kernel_rfl) ?_
            repeat (go_big_quiet_step ((go_at_call 22; exact past_call (values_true x q y _ V1.out V2.out))))
            refine wpQuiet_nil ?_
            rintro _ ⟨⟨w4, h4⟩, rfl⟩
            have HW4 := Lib.hid h4
            clear h4
            go_wp2
            go_roundw
            case rel => exact ⟨j + 1, by omega, by go_num, HX.out.trans (HW4.out.mono HX.out.size)⟩
            case measure => simp [intOf]; omega
        · have eb0 : wr.cell? ⟨gb, 0, none⟩ = some (.int .i64 (8 * c)) := by
            have := (RB.out.below hX rb2 0 (by omega)).1
            rw [show aV (slotsF p lv ot) q c 0 = 8 * c by unfold aV; rw [if_pos rfl, DV.out]] at this
            exact this
          have hj' : 64 ≤ j := by omega
          have HX := Lib.hid hX
          clear hX hj hj64
          go_wp2
          go_ret
          exact ⟨rfl, HB.out.trans (HX.out.mono HB.out.size)⟩

theorem QuantSlots_walk (a0 a1 a2 a3 a4 : Int) (w : World) (_ : (Lit.int .i64 a0).wf = true) (_ : (Lit.int .i64 a1).wf = true) (_ : (Lit.int .i64 a2).wf = true) (_ : (Lit.int .i64 a3).wf = true) (_ : (Lit.int .i64 a4).wf = true) :
    Calls Try.prog 9 #[.int .i64 a0, .int .i64 a1, .int .i64 a2, .int .i64 a3, .int .i64 a4] w fun e w' => e = .returned (.bool true) ∧ Below w.heap.size w w' := by
  by_cases h : 1 + a4 % 254 = 128
  · have hb := Below.refl w.heap.size w
    have m1 := Int.emod_nonneg a0 (show (64 : Int) ≠ 0 by omega)
    go_enter Try.func9, Try.ntmps9
    go_wp2_with (first
      | (go_at_call 21; refine (awake_true _).mono ?_; rintro e w1 ⟨rfl, hw⟩; have hb := hb.trans (hw.mono hb.size))
      | (go_at_call 25; refine (of_is _ _ _ _ _ rfl rfl).mono ?_; rintro e w1 ⟨rfl, rfl⟩)
      | (go_at_call 26; refine (Pick_any _ _ _ (by omega) (by omega)).mono ?_; rintro e w1 ⟨rfl, rfl⟩))
    go_ret
    exact ⟨rfl, hb⟩
  · have m1 := Int.emod_nonneg a0 (show (64 : Int) ≠ 0 by omega)
    have m2 := Int.emod_lt_of_pos a0 (show (0 : Int) < 64 by omega)
    exact slots_walk a0 a1 a2 a3 a4 (a0 % 64).toNat _ _ _ _ w (by omega) rfl rfl rfl rfl h (by omega)
end Qu
end Go.Proofs.Ytkajfabmdljffaa
