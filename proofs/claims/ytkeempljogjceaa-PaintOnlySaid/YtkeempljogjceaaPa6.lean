/- paint's statements: 64 times a number; the chapter's examples. -/
import Derived.Test.YtkeempljogjceaaPa4
import Derived.Test.YtkeempljogjceaaPa2
namespace Go.Proofs.Ytkeempljogjceaa
open Go.RowKit Go.Shelf
namespace Pa
open Fr Pt

theorem made_arr {w : World} {base g N : Nat} {e : TypeId} {k : IntKind} (h : w.ownsRow base e 1 (.slice (some ⟨g, 0, none⟩) N N) N (madeCells (Value.int k 0).cells (N * 1)).toList) : Arr w k g N (fun _ => 0) := by
  have hc := fun j u hu => World.ownsRow.cells h (g := g) rfl j u hu
  rcases h.2 with ⟨h0, _⟩ | ⟨g', cap, cur, h1, h2, h3, h4⟩
  · cases h0
  · cases h1
    intro i hi
    have h5 := hc i (.int k 0) (by simp [madeCells, Value.cells, hi, Nat.mod_one])
    rw [show (⟨g, 0, none⟩ : Addr).add i = ⟨g, i, none⟩ by unfold Addr.add; split <;> simp_all] at h5
    exact ⟨h5, frozen_of_row h3 i⟩
set_option maxRecDepth 100000 in
theorem same64_any (x : Int) (w : World) : Calls Try.prog 34 #[.int .u8 x] w fun e w' => ∃ g, e = .returned (.slice (some ⟨g, 0, none⟩) 64 64) ∧ w.heap.size ≤ g ∧ g < w'.heap.size ∧ Arr w' .u8 g 64 (fun _ => x) ∧ Below w.heap.size w w' := by
  obtain ⟨i0, hi, hz0, hz1, hz2⟩ := info_parts info_byte
  go_enter Try.func34, Try.ntmps34
  go_wp2_with (refine wpList_make_full w rfl _ _ 24 rfl w.heap.size 5 i0 (.int .u8 0) 1 Try.underlying24 hi hz0 hz1 .i64 .i64 _ _ 64 rfl rfl rfl rfl (by rw [hz2]; omega) (by unfold maxLen; omega) (Nat.le_refl _) ?_; intro w1 hown hgr; have HA := Lib.hid (made_arr hown); have HB := Lib.hid ((Below.refl w.heap.size w).grown hgr (Nat.le_refl _) (fun _ e => by cases e)); clear hown hgr)
  go_loopw [4] (fun i wr => ∃ k : Nat, k ≤ 64 ∧ i = .int .i64 k ∧ Arr wr .u8 w.heap.size 64 (fun i => if i < k then x else 0) ∧ Below w.heap.size w wr) (fun i _ => 64 - (intOf i).toNat)
  case atStart => exact ⟨0, by omega, rfl, HA.out.congr (fun i _ => by rw [if_neg (by omega)]), HB.out⟩
  case round =>
    clear HA HB
    obtain ⟨k, hk, rfl, hA, hB⟩ := hrel
    by_cases hk8 : k < 64
    · have c1 := hA k hk8
      have HA := Lib.hid hA
      have HB := Lib.hid hB
      have kb : (0 : Int) ≤ (k : Int) ∧ (k : Int) < 64 := by omega
      clear hA hB
      go_wp2_with fail
      go_roundw
      case rel => exact ⟨k + 1, by omega, by go_num, Arr.fill (g := fun _ => x) HA.out x rfl, HB.out.setCell (p := ⟨w.heap.size, k, none⟩) (Nat.le_refl _) _⟩
      case measure => simp [intOf]; omega
    · have hA' : Arr wr .u8 w.heap.size 64 (fun _ => x) := hA.congr (fun i hi => by rw [if_pos (by omega)])
      have hk' : 64 ≤ k := by omega
      have HA := Lib.hid hA'
      have HB := Lib.hid hB
      clear hA hA' hB
      go_wp2_with fail
      go_ret
      exact ⟨_, rfl, Nat.le_refl _, HA.out.lt (by omega), HA.out, HB.out⟩
set_option maxRecDepth 100000 in
theorem ints64_any (x : Int) (w : World) : Calls Try.prog 35 #[.int .i64 x] w fun e w' => ∃ g, e = .returned (.slice (some ⟨g, 0, none⟩) 64 64) ∧ w.heap.size ≤ g ∧ g < w'.heap.size ∧ Arr w' .i64 g 64 (fun _ => x) ∧ Below w.heap.size w w' := by
  obtain ⟨i0, hi, hz0, hz1, hz2⟩ := info_parts info_int
  go_enter Try.func35, Try.ntmps35
  go_wp2_with (refine wpList_make_full w rfl _ _ 32 rfl w.heap.size 3 i0 (.int .i64 0) 1 Try.underlying32 hi hz0 hz1 .i64 .i64 _ _ 64 rfl rfl rfl rfl (by rw [hz2]; omega) (by unfold maxLen; omega) (Nat.le_refl _) ?_; intro w1 hown hgr; have HA := Lib.hid (made_arr hown); have HB := Lib.hid ((Below.refl w.heap.size w).grown hgr (Nat.le_refl _) (fun _ e => by cases e)); clear hown hgr)
  go_loopw [4] (fun i wr => ∃ k : Nat, k ≤ 64 ∧ i = .int .i64 k ∧ Arr wr .i64 w.heap.size 64 (fun i => if i < k then x else 0) ∧ Below w.heap.size w wr) (fun i _ => 64 - (intOf i).toNat)
  case atStart => exact ⟨0, by omega, rfl, HA.out.congr (fun i _ => by rw [if_neg (by omega)]), HB.out⟩
  case round =>
    clear HA HB
    obtain ⟨k, hk, rfl, hA, hB⟩ := hrel
    by_cases hk8 : k < 64
    · have c1 := hA k hk8
      have HA := Lib.hid hA
      have HB := Lib.hid hB
      have kb : (0 : Int) ≤ (k : Int) ∧ (k : Int) < 64 := by omega
      clear hA hB
      go_wp2_with fail
      go_roundw
      case rel => exact ⟨k + 1, by omega, by go_num, Arr.fill (g := fun _ => x) HA.out x rfl, HB.out.setCell (p := ⟨w.heap.size, k, none⟩) (Nat.le_refl _) _⟩
      case measure => simp [intOf]; omega
    · have hA' : Arr wr .i64 w.heap.size 64 (fun _ => x) := hA.congr (fun i hi => by rw [if_pos (by omega)])
      have hk' : 64 ≤ k := by omega
      have HA := Lib.hid hA'
      have HB := Lib.hid hB
      clear hA hA' hB
      go_wp2_with fail
      go_ret
      exact ⟨_, rfl, Nat.le_refl _, HA.out.lt (by omega), HA.out, HB.out⟩
theorem arr_sl {w : World} {k : IntKind} {g n c : Nat} {F : Nat → Int} (h : Arr w k g n F) (h0 : 0 < n) (hn : n ≤ c) (hm : c ≤ maxLen) : Sl k w (.slice (some ⟨g, 0, none⟩) n c) n F :=
  ⟨_, c, rfl, hn, hm, .inr ⟨g, 0, rfl, h.lt h0, h.ints⟩⟩
theorem adds_true (x n y : Int) (hx : 0 ≤ x ∧ x ≤ 255) (hn : -1048576 ≤ n ∧ n ≤ 1048576) (hy : clipF (x + n) = y) (w : World) :
    Calls Try.prog 36 #[.int .u8 x, .int .i64 n, .int .u8 y] w fun e w' => e = .returned (.bool true) ∧ Below w.heap.size w w' := by
  have HY := Lib.hid hy
  have HE : Hid (addE 64 64 (fun _ => n) = 0) := Lib.hid (by unfold addE; rw [if_neg (by omega), if_pos (show okR (fun _ => n) 64 from fun _ _ => hn)])
  have HN : Hid (addN 64 64 (fun _ => n) = 64) := Lib.hid (by unfold addN; rw [HE.out, if_pos rfl])
  clear hy
  go_enter Try.func36, Try.ntmps36
  go_wp2_with fail
  refine (same64_any x _).mono ?_
  rintro e w1 ⟨g1, rfl, l1, l2, hA, b1⟩
  have SA := Lib.hid (arr_sl (c := 64) hA (by omega) (by omega) (by decide))
  have HB := Lib.hid b1
  clear hA b1
  go_wp2_with fail
  refine (ints64_any n _).mono ?_
  rintro e w2 ⟨g2, rfl, l3, l4, hA, b2⟩
  have SB := Lib.hid (arr_sl (c := 64) hA (by omega) (by omega) (by decide))
  have SA := Lib.hid (SA.out.below b2)
  have HB := Lib.hid (chain HB.out b2)
  clear hA b2
  go_wp2_with fail
  refine (Add_any _ _ 64 64 _ _ _ SA.out SB.out (fun _ _ => hx)).mono ?_
  rintro e w3 ⟨v, rfl, hR, b3⟩
  rw [HE.out]
  rw [HN.out] at hR
  have HR := Lib.hid hR
  have HB := Lib.hid (chain HB.out b3)
  clear hR b3 SA SB
  go_wp2_with fail
  refine (same64_any y _).mono ?_
  rintro e w4 ⟨g4, rfl, l5, l6, hA, b4⟩
  have SC := Lib.hid (arr_sl (c := 64) hA (by omega) (by omega) (by decide))
  have HR := Lib.hid (HR.out.below b4)
  have HB := Lib.hid (chain HB.out b4)
  clear hA b4
  go_wp2_with fail
  refine (SameBytes_true _ _ 64 _ _ _ HR.out.sl SC.out (fun i _ => HY.out)).mono ?_
  rintro e w5 ⟨rfl, rfl⟩
  go_wp2_with fail
  go_ret
  exact ⟨rfl, HB.out⟩
end Pa
end Go.Proofs.Ytkeempljogjceaa
