/- slices.Grow (of nothing), slices.Concat (of three rows), frame.Next. -/
import Derived.Test.YtbmglemjfodfhaaGreatMgFr3
import Derived.Lib.AppendZerosOnto
set_option linter.unusedVariables false
set_option linter.unusedSimpArgs false

namespace Go.Proofs.YtbmglemjfodfhaaGreat
open Go.RowKit
namespace Nx
open Fr

set_option maxRecDepth 100000 in
theorem Grow_zeros (n : Nat) (h1 : 0 < n) (h2 : n ≤ 100000) (w : World) : Calls Tryz.prog 171 #[.slice none 0 0, .int .i64 (n : Int)] w fun e w' => ∃ v, e = .returned v ∧ w'.ownsRow w.heap.size 3 1 v 0 [] ∧ Below w.heap.size w w' := by
  obtain ⟨i0, hi, hz0, hz1, hz2⟩ := info_parts info_int
  have hold : (Builtin.firstCells i0.size 0 (.slice none 0 0)).run Tryz.prog w.drew = .ok ([] : List Value).toArray w.drew := run_firstCells_none w.drew i0.size 0 0 0
  have hG := grownCap_le_maxLen w n 0 3 (by unfold maxLen; omega)
  have hGn : n ≤ grownCap w n 0 3 := grownCap_ge w _ _ _
  have hrz : ∀ ty, (Builtin.append_ #[87, 3] ty #[.slice none 0 0, .int .i64 (n : Int)]).run Tryz.prog w =
      .ok (.slice (some ⟨w.heap.size, 0, none⟩) n (grownCap w n 0 3)) (w.drew.alloc (.cells (([] : List Value).toArray ++ Builtin.zeroCells (Value.int .i64 0).cells n ++ Builtin.zeroCells (Value.int .i64 0).cells (grownCap w n 0 3 - n)) 3)) := fun ty => by
    have h := Lib.run_append_grow_zeros w 87 3 ty 3 i0 (.int .i64 0) .i64 .i64 Tryz.underlying87 Tryz.underlying3 hi hz0 none 0 0 [] hold n h1 (by omega) (by omega) (by omega) (by rw [hz2]; omega) (growslice_fits (by omega) (by rw [hz2]; omega))
    rw [Nat.zero_add] at h
    exact h
  obtain ⟨G, hGe⟩ : ∃ G, grownCap w n 0 3 = G := ⟨_, rfl⟩
  rw [hGe] at hrz hG hGn
  have OW := Lib.hid (World.ownsRow_made (base := w.heap.size) (e := 3) (size := 1) w.drew (([] : List Value).toArray ++ Builtin.zeroCells (Value.int .i64 0).cells n ++ Builtin.zeroCells (Value.int .i64 0).cells (G - n)) G (Nat.le_refl _) hG (by simp [size_zeroCells, Value.cells]; omega))
  have HB := Lib.hid ((Below.refl w.heap.size w).drew.alloc (Nat.le_refl _) (.cells (([] : List Value).toArray ++ Builtin.zeroCells (Value.int .i64 0).cells n ++ Builtin.zeroCells (Value.int .i64 0).cells (G - n)) 3))
  have hGx : G ≤ 9223372036854775807 := by unfold maxLen at hG; omega
  obtain ⟨cs, hcs⟩ : ∃ cs, (([] : List Value).toArray ++ Builtin.zeroCells (Value.int .i64 0).cells n ++ Builtin.zeroCells (Value.int .i64 0).cells (G - n)) = cs := ⟨_, rfl⟩
  rw [hcs] at hrz OW HB
  clear hold hGe hcs hG
  have hn0 : (0 : Int) < (n : Int) := by omega
  go_enter Tryz.func171, Tryz.ntmps171
  go_wp2_with (at_builtin; refine Lib.wpList_append_run _ rfl _ _ _ _ rfl _ _ rfl rfl _ _ (hrz _) ?_)
  go_ret
  exact ⟨_, rfl, OW.out, HB.out⟩

def catN (M : Nat → Nat) : Nat → Nat | 0 => 0 | k + 1 => catN M k + M k
def catV (M : Nat → Nat) (G : Nat → Nat → Int) : Nat → List Value | 0 => [] | k + 1 => catV M G k ++ (List.range (M k)).map fun i => .int .i64 (G k i)
theorem catN_bd {M : Nat → Nat} (h : ∀ k, k < 3 → 0 < M k ∧ M k ≤ 1000) : ∀ k, k ≤ 3 → k ≤ catN M k ∧ catN M k ≤ 1000 * k
  | 0, _ => by simp [catN]
  | k + 1, hk => by
    have h1 := catN_bd h k (by omega)
    have h2 := h k (by omega)
    rw [catN]; omega
set_option maxRecDepth 100000 in
set_option maxHeartbeats 2000000 in
theorem Concat_any (b : Nat) (V : Nat → Value) (M : Nat → Nat) (G : Nat → Nat → Int) (w : World) (hb : b < w.heap.size) (hc : ∀ k, k < 3 → w.cell? ⟨b, k, none⟩ = some (V k))
    (hs : ∀ k, k < 3 → ∃ bb o c, V k = .slice (some ⟨bb, o, none⟩) (M k) c ∧ bb < w.heap.size ∧ Ints w .i64 bb o (M k) (G k)) (hM : ∀ k, k < 3 → 0 < M k ∧ M k ≤ 1000) :
    Calls Tryz.prog 155 #[.slice (some ⟨b, 0, none⟩) 3 3] w fun e w' => ∃ v, e = .returned v ∧ w'.ownsRow w.heap.size 3 1 v (catN M 3) (catV M G 3) ∧ Below w.heap.size w w' := by
  obtain ⟨i0, hi, hz0, hz1, hz2⟩ := info_parts info_int
  have HC := Lib.hid hc
  have HS := Lib.hid hs
  have CN := Lib.hid (catN_bd hM)
  have HM := Lib.hid hM
  clear hc hs hM
  go_enter Tryz.func155, Tryz.ntmps155
  go_wp2_with fail
  go_loopw [3, 11] (fun s i wr => ∃ k : Nat, k ≤ 3 ∧ s = .int .i64 (catN M k : Nat) ∧ i = .int .i64 k ∧ wr = w) (fun _ i _ => 3 - (intOf i).toNat)
  case atStart => exact ⟨0, by omega, rfl, rfl, rfl⟩
  case round =>
    obtain ⟨k, hk, rfl, rfl, hw⟩ := hrel
    have hw' := hw.symm
    subst hw'
    by_cases hk3 : k < 3
    · obtain ⟨bb, o, c, hv, _, _⟩ := HS.out k hk3
      have ck := HC.out k hk3
      rw [hv] at ck
      have n1 := CN.out k hk
      have n2 := HM.out k hk3
      have kb : (0 : Int) ≤ (k : Int) ∧ (k : Int) < 3 := by omega
      have nb : (0 : Int) ≤ ((catN M k : Nat) : Int) + ((M k : Nat) : Int) ∧ ((catN M k : Nat) : Int) + ((M k : Nat) : Int) ≤ 100000 := by omega
      have nn : decide (((catN M k : Nat) : Int) + ((M k : Nat) : Int) < 0) = false := decide_eq_false (by omega)
      clear hv
      go_wp2_with fail
      go_roundw
      case rel => exact ⟨k + 1, by omega, by rw [catN]; go_num, by go_num, by trivial⟩
      case measure => simp [intOf]; omega
    · obtain rfl : k = 3 := by omega
      have n1 := CN.out 3 (by omega)
      obtain ⟨n, hn⟩ : ∃ n, catN M 3 = n := ⟨_, rfl⟩
      rw [hn] at n1 ⊢
      go_wp2_with fail
      refine (Grow_zeros n (by omega) (by omega) _).mono ?_
      rintro e w1 ⟨v1, rfl, hown, hB⟩
      have OWN := Lib.hid hown
      have HB := Lib.hid hB
      clear hown hB
      go_wp2_with fail
      go_loopw [6, 27] (fun v i wX => ∃ k : Nat, k ≤ 3 ∧ i = .int .i64 k ∧ wX.ownsRow w.heap.size 3 1 v (catN M k) (catV M G k) ∧ Below w.heap.size w wX) (fun _ i _ => 3 - (intOf i).toNat)
      case atStart => exact ⟨0, by omega, rfl, OWN.out, HB.out⟩
      case round =>
        obtain ⟨k, hk, rfl, hown, hB⟩ := hrel
        have OWN := Lib.hid hown
        have HB := Lib.hid hB
        have sz := hB.size
        clear hown hB
        by_cases hk3 : k < 3
        · obtain ⟨bb, o, c, hv, hbb, hI⟩ := HS.out k hk3
          have ck := (HB.out.cell (p := ⟨b, k, none⟩) hb).trans (HC.out k hk3)
          rw [hv] at ck
          have n1 := CN.out k hk
          have n2 := HM.out k hk3
          have kb : (0 : Int) ≤ (k : Int) ∧ (k : Int) < 3 := by omega
          have NW := Lib.hid (news_ints (hI.below HB.out hbb))
          have OW := Lib.hid (one_cells .i64 (M k) (G k))
          clear hv hI
          go_wp2_with (at_builtin; go_loud (refine wpList_append_own _ rfl _ _ 87 rfl w.heap.size 3 i0 (.int .i64 0) 1 8 Tryz.underlying87 hi hz0 hz1 hz2 rfl (by decide) _ _ _ rfl OWN.out ⟨bb, o, none⟩ (M k) c ((List.range (M k)).map fun i => Value.int .i64 (G k i)) rfl (by simp) NW.out OW.out (by unfold maxLen; omega) (by omega) sz ?_); intro v' w2 hown2 hgr hnil)
          have hB2 : Hid (Below w.heap.size w w2) := Lib.hid (HB.out.grown hgr sz (fun q hq => (OWN.out.lt q hq).1))
          have OW2 := Lib.hid hown2
          clear hown2 hgr hnil
          go_wp2_with fail
          go_roundw
          case rel => exact ⟨k + 1, by omega, by go_num, OW2.out, hB2.out⟩
          case measure => simp [intOf]; omega
        · obtain rfl : k = 3 := by omega
          go_wp2_with fail
          go_ret
          exact ⟨_, rfl, by rw [← hn]; exact OWN.out, HB.out⟩
end Nx
end Go.Proofs.YtbmglemjfodfhaaGreat
