/- slices.Grow (of nothing), slices.Concat (of three rows), frame.Next. | frame.Next. | BuildKnown. | BuildIntra. -/
import Derived.Test.YtbmglemjfodfhaaGreatMgBl2
import Derived.Test.YtbmglemjfodfhaaGreatMgBl5
import Derived.Test.YtbmglemjfodfhaaGreatMgFr3
import Derived.Deep.RegionHeld3
import Derived.Deep.RegionWith
import Derived.Lib.AppendZerosOnto
set_option linter.unusedVariables false
set_option linter.unusedSimpArgs false

namespace Go.Proofs.YtbmglemjfodfhaaGreat
open Go.RowKit
namespace Nx
open Fr

set_option maxRecDepth 100000 in
theorem Grow_zeros (n : Nat) (h1 : 0 < n) (h2 : n ≤ 100000) (w : World) : Calls Tryz.prog 171 #[.slice none 0 0, .int .i64 (n : Int)] w fun e w' => ∃ v, e = .returned v ∧ w'.ownsRow w.heap.size 3 1 v 0 [] ∧ Below w.heap.size w w' := by
  obtain ⟨i0, hi, hz0, hz1, hz2⟩ := info_parts info_int
  have hold : (Builtin.firstCells i0.size 0 (.slice none 0 0)).run Tryz.prog w.drew = .ok ([] : List Value).toArray w.drew := run_firstCells_none w.drew i0.size 0 0 0
  have hG := grownCap_le_maxLen w n 0 3 (by unfold maxLen; omega)
  have hGn : n ≤ grownCap w n 0 3 := grownCap_ge w _ _ _
  have hrz : ∀ ty, (Builtin.append_ #[87, 3] ty #[.slice none 0 0, .int .i64 (n : Int)]).run Tryz.prog w =
      .ok (.slice (some ⟨w.heap.size, 0, none⟩) n (grownCap w n 0 3)) (w.drew.alloc (.cells (([] : List Value).toArray ++ Builtin.zeroCells (Value.int .i64 0).cells n ++ Builtin.zeroCells (Value.int .i64 0).cells (grownCap w n 0 3 - n)) 3)) := fun ty => by
    have h := Lib.run_append_grow_zeros w 87 3 ty 3 i0 (.int .i64 0) .i64 .i64 Tryz.underlying87 Tryz.underlying3 hi hz0 none 0 0 [] hold n h1 (by omega) (by omega) (by omega) (by rw [hz2]; omega) (growslice_fits (by omega) (by rw [hz2]; omega))
    rw [Nat.zero_add] at h
    exact h
  obtain ⟨G, hGe⟩ : ∃ G, grownCap w n 0 3 = G := ⟨_, rfl⟩
  rw [hGe] at hrz hG hGn
  have OW := Lib.hid (World.ownsRow_made (base := w.heap.size) (e := 3) (size := 1) w.drew (([] : List Value).toArray ++ Builtin.zeroCells (Value.int .i64 0).cells n ++ Builtin.zeroCells (Value.int .i64 0).cells (G - n)) G (Nat.le_refl _) hG (by simp [size_zeroCells, Value.cells]; omega))
  have HB := Lib.hid ((Below.refl w.heap.size w).drew.alloc (Nat.le_refl _) (.cells (([] : List Value).toArray ++ Builtin.zeroCells (Value.int .i64 0).cells n ++ Builtin.zeroCells (Value.int .i64 0).cells (G - n)) 3))
  have hGx : G ≤ 9223372036854775807 := by unfold maxLen at hG; omega
  obtain ⟨cs, hcs⟩ : ∃ cs, (([] : List Value).toArray ++ Builtin.zeroCells (Value.int .i64 0).cells n ++ Builtin.zeroCells (Value.int .i64 0).cells (G - n)) = cs := ⟨_, rfl⟩
  rw [hcs] at hrz OW HB
  clear hold hGe hcs hG
  have hn0 : (0 : Int) < (n : Int) := by omega
  go_enter Tryz.func171, Tryz.ntmps171
  go_wp2_with (at_builtin; refine Lib.wpList_append_run _ rfl _ _ _ _ rfl _ _ rfl rfl _ _ (hrz _) ?_)
  go_ret
  exact ⟨_, rfl, OW.out, HB.out⟩

def catN (M : Nat → Nat) : Nat → Nat | 0 => 0 | k + 1 => catN M k + M k
def catV (M : Nat → Nat) (G : Nat → Nat → Int) : Nat → List Value | 0 => [] | k + 1 => catV M G k ++ (List.range (M k)).map fun i => .int .i64 (G k i)
theorem catN_bd {M : Nat → Nat} (h : ∀ k, k < 3 → 0 < M k ∧ M k ≤ 1000) : ∀ k, k ≤ 3 → k ≤ catN M k ∧ catN M k ≤ 1000 * k
  | 0, _ => by simp [catN]
  | k + 1, hk => by
    have h1 := catN_bd h k (by omega)
    have h2 := h k (by omega)
    rw [catN]; omega
set_option maxRecDepth 100000 in
set_option maxHeartbeats 2000000 in
theorem Concat_any (b : Nat) (V : Nat → Value) (M : Nat → Nat) (G : Nat → Nat → Int) (w : World) (hb : b < w.heap.size) (hc : ∀ k, k < 3 → w.cell? ⟨b, k, none⟩ = some (V k))
    (hs : ∀ k, k < 3 → ∃ bb o c, V k = .slice (some ⟨bb, o, none⟩) (M k) c ∧ bb < w.heap.size ∧ Ints w .i64 bb o (M k) (G k)) (hM : ∀ k, k < 3 → 0 < M k ∧ M k ≤ 1000) :
    Calls Tryz.prog 155 #[.slice (some ⟨b, 0, none⟩) 3 3] w fun e w' => ∃ v, e = .returned v ∧ w'.ownsRow w.heap.size 3 1 v (catN M 3) (catV M G 3) ∧ Below w.heap.size w w' := by
  obtain ⟨i0, hi, hz0, hz1, hz2⟩ := info_parts info_int
  have HC := Lib.hid hc
  have HS := Lib.hid hs
  have CN := Lib.hid (catN_bd hM)
  have HM := Lib.hid hM
  clear hc hs hM
  go_enter Tryz.func155, Tryz.ntmps155
  go_wp2_with fail
  go_loopw [3, 11] (fun s i wr => ∃ k : Nat, k ≤ 3 ∧ s = .int .i64 (catN M k : Nat) ∧ i = .int .i64 k ∧ wr = w) (fun _ i _ => 3 - (intOf i).toNat)
  case atStart => exact ⟨0, by omega, rfl, rfl, rfl⟩
  case round =>
    obtain ⟨k, hk, rfl, rfl, hw⟩ := hrel
    have hw' := hw.symm
    subst hw'
    by_cases hk3 : k < 3
    · obtain ⟨bb, o, c, hv, _, _⟩ := HS.out k hk3
      have ck := HC.out k hk3
      rw [hv] at ck
      have n1 := CN.out k hk
      have n2 := HM.out k hk3
      have kb : (0 : Int) ≤ (k : Int) ∧ (k : Int) < 3 := by omega
      have nb : (0 : Int) ≤ ((catN M k : Nat) : Int) + ((M k : Nat) : Int) ∧ ((catN M k : Nat) : Int) + ((M k : Nat) : Int) ≤ 100000 := by omega
      have nn : decide (((catN M k : Nat) : Int) + ((M k : Nat) : Int) < 0) = false := decide_eq_false (by omega)
      clear hv
      go_wp2_with fail
      go_roundw
      case rel => exact ⟨k + 1, by omega, by rw [catN]; go_num, by go_num, by trivial⟩
      case measure => simp [intOf]; omega
    · obtain rfl : k = 3 := by omega
      have n1 := CN.out 3 (by omega)
      obtain ⟨n, hn⟩ : ∃ n, catN M 3 = n := ⟨_, rfl⟩
      rw [hn] at n1 ⊢
      go_wp2_with fail
      refine (Grow_zeros n (by omega) (by omega) _).mono ?_
      rintro e w1 ⟨v1, rfl, hown, hB⟩
      have OWN := Lib.hid hown
      have HB := Lib.hid hB
      clear hown hB
      go_wp2_with fail
      go_loopw [6, 27] (fun v i wX => ∃ k : Nat, k ≤ 3 ∧ i = .int .i64 k ∧ wX.ownsRow w.heap.size 3 1 v (catN M k) (catV M G k) ∧ Below w.heap.size w wX) (fun _ i _ => 3 - (intOf i).toNat)
      case atStart => exact ⟨0, by omega, rfl, OWN.out, HB.out⟩
      case round =>
        obtain ⟨k, hk, rfl, hown, hB⟩ := hrel
        have OWN := Lib.hid hown
        have HB := Lib.hid hB
        have sz := hB.size
        clear hown hB
        by_cases hk3 : k < 3
        · obtain ⟨bb, o, c, hv, hbb, hI⟩ := HS.out k hk3
          have ck := (HB.out.cell (p := ⟨b, k, none⟩) hb).trans (HC.out k hk3)
          rw [hv] at ck
          have n1 := CN.out k hk
          have n2 := HM.out k hk3
          have kb : (0 : Int) ≤ (k : Int) ∧ (k : Int) < 3 := by omega
          have NW := Lib.hid (news_ints (hI.below HB.out hbb))
          have OW := Lib.hid (one_cells .i64 (M k) (G k))
          clear hv hI
          go_wp2_with (at_builtin; go_loud (refine wpList_append_own _ rfl _ _ 87 rfl w.heap.size 3 i0 (.int .i64 0) 1 8 Tryz.underlying87 hi hz0 hz1 hz2 rfl (by decide) _ _ _ rfl OWN.out ⟨bb, o, none⟩ (M k) c ((List.range (M k)).map fun i => Value.int .i64 (G k i)) rfl (by simp) NW.out OW.out (by unfold maxLen; omega) (by omega) sz ?_); intro v' w2 hown2 hgr hnil)
          have hB2 : Hid (Below w.heap.size w w2) := Lib.hid (HB.out.grown hgr sz (fun q hq => (OWN.out.lt q hq).1))
          have OW2 := Lib.hid hown2
          clear hown2 hgr hnil
          go_wp2_with fail
          go_roundw
          case rel => exact ⟨k + 1, by omega, by go_num, OW2.out, hB2.out⟩
          case measure => simp [intOf]; omega
        · obtain rfl : k = 3 := by omega
          go_wp2_with fail
          go_ret
          exact ⟨_, rfl, by rw [← hn]; exact OWN.out, HB.out⟩
end Nx
end Go.Proofs.YtbmglemjfodfhaaGreat

namespace Go.Proofs.YtbmglemjfodfhaaGreat
open Go.RowKit
namespace Nx
open Fr

def cF (n : Int) (i : Nat) : Int := if i = 0 then 0 else if i ≤ grN n then grF n (i - 1) else 0
def nV (n g : Int) : Int := if n = 0 ∨ n = 1 then (if g = 0 then 1 else if inG n g = true then (if g = (if n = 0 then 5 else 12) then 0 else g + (2 - n)) else 0) else 0
def nEr (n g : Int) : Int := if n = 0 ∨ n = 1 then (if g = 0 ∨ inG n g = true then 0 else 8) else 3
theorem next_ix (n g : Int) (hn : n = 0 ∨ n = 1) (h : g = 0 ∨ inG n g = true) : ∃ j : Nat, j ≤ grN n ∧ ixF (cF n) g (grN n + 2) = (j : Int) ∧ cF n (j + 1) = nV n g := by
  rcases hn with rfl | rfl
  · rw [inG_0, decide_eq_true_eq] at h
    rcases h with rfl | rfl | rfl | rfl
    · exact ⟨0, by decide, by decide +kernel, by decide +kernel⟩
    · exact ⟨1, by decide, by decide +kernel, by decide +kernel⟩
    · exact ⟨2, by decide, by decide +kernel, by decide +kernel⟩
    · exact ⟨3, by decide, by decide +kernel, by decide +kernel⟩
  · rw [inG_1, decide_eq_true_eq] at h
    have h' : g = 0 ∨ g = 1 ∨ g = 2 ∨ g = 3 ∨ g = 4 ∨ g = 5 ∨ g = 6 ∨ g = 7 ∨ g = 8 ∨ g = 9 ∨ g = 10 ∨ g = 11 ∨ g = 12 := by omega
    clear h
    refine ⟨g.toNat, ?_⟩
    rcases h' with rfl | rfl | rfl | rfl | rfl | rfl | rfl | rfl | rfl | rfl | rfl | rfl | rfl <;> exact ⟨by decide +kernel, by decide +kernel, by decide +kernel⟩
theorem next_no (n g : Int) (hn : n = 0 ∨ n = 1) (h : ¬ (g = 0 ∨ inG n g = true)) : ixF (cF n) g (grN n + 2) = -1 := by
  refine ixF_no _ fun k hk => ?_
  rcases hn with rfl | rfl
  · rw [inG_0, decide_eq_true_eq] at h
    rcases (by have : grN 0 = 3 := rfl; omega : k = 0 ∨ k = 1 ∨ k = 2 ∨ k = 3 ∨ k = 4) with rfl | rfl | rfl | rfl | rfl <;> simp only [cF, grF, grN] <;> simp <;> omega
  · rw [inG_1, decide_eq_true_eq] at h
    have e : grN 1 = 12 := rfl
    unfold cF
    rw [e]
    split
    · omega
    · split
      · unfold grF; omega
      · omega
def nM (N k : Nat) : Nat := if k = 1 then N else 1
def nG (n : Int) (k i : Nat) : Int := if k = 1 then grF n i else 0
theorem cat_eq (n : Int) : catN (nM (grN n)) 3 = grN n + 2 ∧ catV (nM (grN n)) (nG n) 3 = (List.range (grN n + 2)).map fun i => .int .i64 (cF n i) := by
  constructor
  · simp [catN, nM]
    try omega
  · obtain ⟨N, hN⟩ : ∃ N, grN n = N := ⟨_, rfl⟩
    apply List.ext_getElem
    · simp [catV, nM, hN]
      try omega
    · intro i h1 h2
      simp only [catV, nM, nG, cF, hN]
      simp only [List.length_map, List.length_range] at h2
      rcases Nat.lt_or_ge i 1 with h3 | h3
      · obtain rfl : i = 0 := by omega
        simp
      · rcases Nat.lt_or_ge i (N + 1) with h4 | h4
        · rw [List.getElem_append_left (by simp; omega), List.getElem_append_right (by simp; omega)]
          simp only [List.getElem_map, List.getElem_range, List.length_append, List.length_map, List.length_range, List.length_nil, List.getElem_range, if_pos rfl]
          simp
          rw [if_neg (by omega), if_pos (by omega)]
        · rw [List.getElem_append_right (by simp; omega)]
          simp
          omega
theorem nt_small (n : Int) (hn : n = 0 ∨ n = 1) : 3 ≤ grN n ∧ grN n ≤ 12 := by rcases hn with rfl | rfl <;> decide

set_option maxRecDepth 100000 in
theorem Next_ok (n g : Int) (hn : n = 0 ∨ n = 1) (w : World) :
    Calls Tryz.prog 123 #[.int .i64 n, .int .i64 g] w fun e w' => e = .returned (.tuple #[.int .i64 (nV n g), .int .i64 (nEr n g)]) ∧ Below w.heap.size w w' := by
  have FE : Hid (fE n = 0) := Lib.hid (by unfold fE; rw [if_pos hn])
  have NB := nt_small n hn
  have CE := Lib.hid (cat_eq n)
  have HN := Lib.hid hn
  obtain ⟨N, hN⟩ : ∃ N, grN n = N := ⟨_, rfl⟩
  rw [hN] at NB CE
  have HNe := Lib.hid hN
  clear hn hN
  go_enter Tryz.func123, Tryz.ntmps123
  go_wp2_with fail
  refine (Groups_any n _).mono ?_
  rintro e w1 ⟨v, rfl, hR, b1⟩
  rw [FE.out]
  rw [HNe.out] at hR
  rcases hR with ⟨h0, _⟩ | ⟨gg, c, rfl, h1, h2, h3, h4, hA⟩
  · exfalso; omega
  have cw1 := heap_alloc_new (((w1.alloc (.cells #[.int .i64 0] 3)).alloc (.cells #[.int .i64 0] 3))) (.cells #[.slice (some ⟨w1.heap.size, 0, none⟩) 1 1, .slice (some ⟨gg, 0, none⟩) N c, .slice (some ⟨w1.heap.size + 1, 0, none⟩) 1 1] 87)
  have bw : Below w1.heap.size w1 (((w1.alloc (.cells #[.int .i64 0] 3)).alloc (.cells #[.int .i64 0] 3)).alloc (.cells #[.slice (some ⟨w1.heap.size, 0, none⟩) 1 1, .slice (some ⟨gg, 0, none⟩) N c, .slice (some ⟨w1.heap.size + 1, 0, none⟩) 1 1] 87)) := (((Below.refl w1.heap.size w1).alloc (Nat.le_refl _) _).alloc (by simp) _).alloc (by simp; omega) _
  have hz0 : (((w1.alloc (.cells #[.int .i64 0] 3)).alloc (.cells #[.int .i64 0] 3)).alloc (.cells #[.slice (some ⟨w1.heap.size, 0, none⟩) 1 1, .slice (some ⟨gg, 0, none⟩) N c, .slice (some ⟨w1.heap.size + 1, 0, none⟩) 1 1] 87)).heap[w1.heap.size]? = some (.cells #[.int .i64 0] 3 (0, 0)) :=
    (Below.heap_alloc _ _ _ (by simp; omega)).trans ((Below.heap_alloc _ _ _ (by simp)).trans (heap_alloc_new w1 _))
  have hz1 : (((w1.alloc (.cells #[.int .i64 0] 3)).alloc (.cells #[.int .i64 0] 3)).alloc (.cells #[.slice (some ⟨w1.heap.size, 0, none⟩) 1 1, .slice (some ⟨gg, 0, none⟩) N c, .slice (some ⟨w1.heap.size + 1, 0, none⟩) 1 1] 87)).heap[w1.heap.size + 1]? = some (.cells #[.int .i64 0] 3 (0, 0)) :=
    (Below.heap_alloc _ _ _ (by simp)).trans (by have := heap_alloc_new (w1.alloc (.cells #[.int .i64 0] 3)) (.cells #[.int .i64 0] 3); rwa [World.size_alloc] at this)
  rw [World.size_alloc, World.size_alloc] at cw1
  have HZ0 := Lib.hid hz0
  have HZ1 := Lib.hid hz1
  have HA := Lib.hid hA
  have HB := Lib.hid b1
  have BW := Lib.hid bw
  obtain ⟨W3, hW3⟩ : ∃ W3, (((w1.alloc (.cells #[.int .i64 0] 3)).alloc (.cells #[.int .i64 0] 3)).alloc (.cells #[.slice (some ⟨w1.heap.size, 0, none⟩) 1 1, .slice (some ⟨gg, 0, none⟩) N c, .slice (some ⟨w1.heap.size + 1, 0, none⟩) 1 1] 87)) = W3 := ⟨_, rfl⟩
  have CW := Lib.hid cw1
  clear hA b1 hz0 hz1 bw cw1
  go_wp2_with fail
  rw [hW3] at CW HZ0 HZ1 BW
  clear hW3
  have hgl := Nat.lt_of_lt_of_le h2 BW.out.size
  have HA3 := Lib.hid (HA.out.below BW.out h2)
  have sz : w1.heap.size + 1 < W3.heap.size := (Array.getElem?_eq_some_iff.1 HZ1.out).1
  refine (Concat_any (w1.heap.size + 1 + 1) (fun k => if k = 0 then .slice (some ⟨w1.heap.size, 0, none⟩) 1 1 else if k = 1 then .slice (some ⟨gg, 0, none⟩) N c else .slice (some ⟨w1.heap.size + 1, 0, none⟩) 1 1) (nM N) (nG n) W3 ?_ ?_ ?_ ?_).mono ?_
  · exact (Array.getElem?_eq_some_iff.1 CW.out).1
  · intro k hk
    rcases (by omega : k = 0 ∨ k = 1 ∨ k = 2) with rfl | rfl | rfl <;> simp [World.cell?, CW.out]
  · intro k hk
    rcases (by omega : k = 0 ∨ k = 1 ∨ k = 2) with rfl | rfl | rfl
    · refine ⟨w1.heap.size, 0, 1, rfl, by omega, fun i hi => ?_⟩
      have hi' : i < 1 := hi
      obtain rfl : i = 0 := by omega
      simp [World.cell?, HZ0.out, nG]
    · refine ⟨gg, 0, c, rfl, by omega, fun i hi => ?_⟩
      rw [Nat.zero_add]
      have := (HA3.out i hi).1
      simpa [nG] using this
    · refine ⟨w1.heap.size + 1, 0, 1, rfl, by omega, fun i hi => ?_⟩
      have hi' : i < 1 := hi
      obtain rfl : i = 0 := by omega
      simp [World.cell?, HZ1.out, nG]
  · intro k hk
    unfold nM
    split <;> omega
  · rintro e w4 ⟨v, rfl, hown, b4⟩
    rw [CE.out.1, CE.out.2] at hown
    have hR := Res.of_own hown
    rcases hR with ⟨h0, _⟩ | ⟨g2, c2, rfl, k1, k2, k3, k4, hA2⟩
    · exfalso; omega
    have SLR : Hid (Sl .i64 w4 (.slice (some ⟨g2, 0, none⟩) (N + 2) c2) (N + 2) (cF n)) := Lib.hid ((Res.of_own hown).sl)
    have HA2 := Lib.hid hA2
    have HB := Lib.hid (chain (chain HB.out BW.out) b4)
    clear hown b4 HA HA3 HZ0 HZ1 BW CW hA2
    go_wp2_with fail
    refine (Index_any _ (N + 2) (cF n) g _ SLR.out (by omega)).mono ?_
    rintro e w5 ⟨rfl, rfl⟩
    by_cases h : g = 0 ∨ inG n g = true
    · obtain ⟨j, j1, j2, j3⟩ := next_ix n g HN.out h
      rw [HNe.out] at j1 j2
      rw [j2]
      have E1 : Hid (nEr n g = 0) := Lib.hid (by unfold nEr; rw [if_pos HN.out, if_pos h])
      have cj := (HA2.out (j + 1) (by omega)).1
      rw [j3] at cj
      obtain ⟨x, hx⟩ : ∃ x, nV n g = x := ⟨_, rfl⟩
      rw [hx] at cj
      have HX := Lib.hid hx
      have jb : (0 : Int) ≤ (j : Int) + 1 ∧ (j : Int) + 1 < ((N + 2 : Nat) : Int) := by omega
      have jn : decide ((j : Int) < 0) = false := decide_eq_false (by omega)
      clear j2 j3 hx h
      go_wp2_with fail
      go_ret2
      exact ⟨by rw [E1.out, HX.out]; rfl, HB.out⟩
    · rw [← HNe.out, next_no n g HN.out h]
      have E1 : Hid (nEr n g = 8) := Lib.hid (by unfold nEr; rw [if_pos HN.out, if_neg h])
      have E2 : Hid (nV n g = 0) := Lib.hid (by unfold nV; rw [if_pos HN.out, if_neg (fun e => h (.inl e)), if_neg (fun e => h (.inr e))])
      clear h
      go_wp2_with fail
      go_ret2
      exact ⟨by rw [E1.out, E2.out]; rfl, HB.out⟩
theorem Next_no (n g : Int) (hn : ¬ (n = 0 ∨ n = 1)) (w : World) :
    Calls Tryz.prog 123 #[.int .i64 n, .int .i64 g] w fun e w' => e = .returned (.tuple #[.int .i64 (nV n g), .int .i64 (nEr n g)]) ∧ Below w.heap.size w w' := by
  have FE : Hid (fE n = 3) := Lib.hid (by unfold fE; rw [if_neg hn])
  have E1 : Hid (nEr n g = 3) := Lib.hid (by unfold nEr; rw [if_neg hn])
  have E2 : Hid (nV n g = 0) := Lib.hid (by unfold nV; rw [if_neg hn])
  clear hn
  go_enter Tryz.func123, Tryz.ntmps123
  go_wp2_with fail
  refine (Groups_any n _).mono ?_
  rintro e w1 ⟨v, rfl, hR, b1⟩
  rw [FE.out]
  have HB := Lib.hid b1
  clear hR b1
  go_wp2_with fail
  go_ret2
  exact ⟨by rw [E1.out, E2.out]; rfl, HB.out⟩
theorem Next_any (n g : Int) (w : World) :
    Calls Tryz.prog 123 #[.int .i64 n, .int .i64 g] w fun e w' => e = .returned (.tuple #[.int .i64 (nV n g), .int .i64 (nEr n g)]) ∧ Below w.heap.size w w' := by
  by_cases hn : n = 0 ∨ n = 1
  · exact Next_ok n g hn w
  · exact Next_no n g hn w
end Nx
end Go.Proofs.YtbmglemjfodfhaaGreat

namespace Go.Proofs.YtbmglemjfodfhaaGreat
open Go.RowKit
namespace Bl
open Bk Fr Pt Kd Bu

/-- four boxes. -/
theorem boxes4 (w : World) (a b c d : Array Value) (t1 t2 t3 t4 : TypeId) :
    At ((((w.alloc (.cells a t1)).alloc (.cells b t2)).alloc (.cells c t3)).alloc (.cells d t4)) w.heap.size a t1
    ∧ At ((((w.alloc (.cells a t1)).alloc (.cells b t2)).alloc (.cells c t3)).alloc (.cells d t4)) (w.heap.size + 1) b t2
    ∧ At ((((w.alloc (.cells a t1)).alloc (.cells b t2)).alloc (.cells c t3)).alloc (.cells d t4)) (w.heap.size + 1 + 1) c t3
    ∧ At ((((w.alloc (.cells a t1)).alloc (.cells b t2)).alloc (.cells c t3)).alloc (.cells d t4)) (w.heap.size + 1 + 1 + 1) d t4
    ∧ Below w.heap.size w ((((w.alloc (.cells a t1)).alloc (.cells b t2)).alloc (.cells c t3)).alloc (.cells d t4)) := by
  obtain ⟨w1, e1⟩ : ∃ x, x = w.alloc (.cells a t1) := ⟨_, rfl⟩
  have z1 : w1.heap.size = w.heap.size + 1 := by rw [e1]; simp
  obtain ⟨w2, e2⟩ : ∃ x, x = w1.alloc (.cells b t2) := ⟨_, rfl⟩
  have z2 : w2.heap.size = w.heap.size + 1 + 1 := by rw [e2]; simp [z1]
  obtain ⟨w3, e3⟩ : ∃ x, x = w2.alloc (.cells c t3) := ⟨_, rfl⟩
  have z3 : w3.heap.size = w.heap.size + 1 + 1 + 1 := by rw [e3]; simp [z2]
  rw [← e1, ← e2, ← e3]
  have b1 : Below w.heap.size w w1 := by rw [e1]; exact (Below.refl _ _).alloc (Nat.le_refl _) _
  have b2 : Below w1.heap.size w1 w2 := by rw [e2]; exact (Below.refl _ _).alloc (Nat.le_refl _) _
  have b3 : Below w2.heap.size w2 w3 := by rw [e3]; exact (Below.refl _ _).alloc (Nat.le_refl _) _
  have b4 : Below w3.heap.size w3 (w3.alloc (.cells d t4)) := (Below.refl _ _).alloc (Nat.le_refl _) _
  have a1 : At w1 w.heap.size a t1 := by rw [e1]; exact At.new w a t1
  have a2 : At w2 (w.heap.size + 1) b t2 := by rw [e2, ← z1]; exact At.new w1 b t2
  have a3 : At w3 (w.heap.size + 1 + 1) c t3 := by rw [e3, ← z2]; exact At.new w2 c t3
  have a4 : At (w3.alloc (.cells d t4)) (w.heap.size + 1 + 1 + 1) d t4 := by rw [← z3]; exact At.new w3 d t4
  exact ⟨((a1.below b2).below b3).below b4, (a2.below b3).below b4, a3.below b4, a4, chain (chain (chain b1 b2) b3) b4⟩
section
set_option maxRecDepth 100000
set_option maxHeartbeats 2000000
theorem refuses_no (k E : Int) (hk : (k = 2 ∧ E = 8) ∨ (k = 1 ∧ E = 2)) (ta : Option Addr) (c : Nat) (w : World) :
    Calls Tryz.prog 75 #[.slice ta 38016 c, .slice none 0 0, .int .i64 0, .agg #[.int .i64 k, .int .i64 0, .slice none 0 0, .slice none 0 0]] w fun e w' => e = .returned (.int .i64 E) ∧ Below w.heap.size w w' := by
  have HS := Lib.hid (fun V => Size_any 0 V)
  have HN := Lib.hid (fun V => Nx.Next_any 0 k V)
  have e1 : fE 0 = 0 := rfl
  have e2 : zV 0 = 38016 := rfl
  rw [e1, e2] at HS
  have HB := Lib.hid ((Below.refl w.heap.size w).alloc (Nat.le_refl _) (.cells #[.int .i64 k, .int .i64 0, .slice none 0 0, .slice none 0 0] 56))
  have H5 : Hid (At _ _ _ _) := Lib.hid (At.new w #[.int .i64 k, .int .i64 0, .slice none 0 0, .slice none 0 0] 56)
  have k0 := H5.out.cell 0 _ rfl
  clear e1 e2
  rcases hk with ⟨rfl, rfl⟩ | ⟨rfl, rfl⟩
  · rw [show Nx.nV 0 2 = 0 by decide, show Nx.nEr 0 2 = 8 by decide] at HN
    go_enter Tryz.func75, Tryz.ntmps75
    go_wp2_with (first
      | (go_at_call 73; refine (HS.out _).mono ?_; rintro e w1 ⟨rfl, rfl⟩)
      | (go_at_call 123; refine (HN.out _).mono ?_; rintro e w2 ⟨rfl, b2⟩; have HB := Lib.hid (chain HB.out b2); have H5 := Lib.hid (H5.out.below b2); clear b2 k0; have k0 := H5.out.cell 0 _ rfl; have k1 := H5.out.cell 1 _ rfl))
    go_ret
    exact ⟨rfl, HB.out⟩
  · rw [show Nx.nV 0 1 = 3 by decide, show Nx.nEr 0 1 = 0 by decide] at HN
    go_enter Tryz.func75, Tryz.ntmps75
    go_wp2_with (first
      | (go_at_call 73; refine (HS.out _).mono ?_; rintro e w1 ⟨rfl, rfl⟩)
      | (go_at_call 123; refine (HN.out _).mono ?_; rintro e w2 ⟨rfl, b2⟩; have HB := Lib.hid (chain HB.out b2); have H5 := Lib.hid (H5.out.below b2); clear b2 k0; have k0 := H5.out.cell 0 _ rfl; have k1 := H5.out.cell 1 _ rfl))
    go_ret
    exact ⟨rfl, HB.out⟩
theorem grp_no (k E : Int) (hk : (k = 2 ∧ E = 8) ∨ (k = 1 ∧ E = 2)) (ta : Option Addr) (c : Nat) (w : World) :
    Calls Tryz.prog 35 #[.slice ta 38016 c, .slice none 0 0, .int .i64 0, .agg #[.int .i64 k, .int .i64 0, .slice none 0 0, .slice none 0 0]] w fun e w' => e = .returned (.int .i64 E) ∧ Below w.heap.size w w' := by
  have HR := Lib.hid (fun V => refuses_no k E hk ta c V)
  have t1 : (E != 0) = true := by rcases hk with ⟨_, rfl⟩ | ⟨_, rfl⟩ <;> decide
  obtain ⟨a1, a2, a3, a4, bb⟩ := boxes4 w #[.slice ta 38016 c] #[.slice none 0 0] #[.int .i64 0] #[.int .i64 k, .int .i64 0, .slice none 0 0, .slice none 0 0] 30 30 3 56
  have HB := Lib.hid bb
  have k0 := a1.cell 0 _ rfl
  have k1 := a2.cell 0 _ rfl
  have k2 := a3.cell 0 _ rfl
  have k3 := a4.cell 0 _ rfl
  have k4 := a4.cell 1 _ rfl
  have k5 := a4.cell 2 _ rfl
  have k6 := a4.cell 3 _ rfl
  clear hk bb a1 a2 a3 a4
  go_enter Tryz.func35, Tryz.ntmps35
  go_wp2_with (go_at_call 75; refine (HR.out _).mono ?_; rintro e w1 ⟨rfl, b1⟩; have HB := Lib.hid (chain HB.out b1); clear b1 k0 k1 k2 k3 k4 k5 k6)
  go_ret
  exact ⟨rfl, HB.out⟩
end
/-- the macroblock that is moved out of the picture. -/
def MV : MB := ⟨1, 5, 0, -1, 0, 0, 0, fun _ => 0, fun _ => none, fun _ => 0, fun _ => 0, fun _ _ => 0, fun _ _ => 0⟩
theorem MV_at (w : World) : MV.at w (.slice none 0 0) := ⟨none, 0, rfl, Nat.le_refl _, Nat.zero_le _, .inl rfl⟩
theorem known_e : smE M5 0 1 1 0 7 = 0 ∧ smE M5 0 1 1 2 7 = 2 ∧ smE M5 0 1 2 0 7 = 2 ∧ smE MV 0 1 1 0 7 = 12 ∧ cE 0 1 1 = 0 ∧ cE 0 1 2 = 0 := by decide +kernel
def n5 : Nat → Int := Pa.copF 0 1 1 (fun _ => 128) (fun _ => 0) 6
theorem n5_vals : (∀ i, i < 16 → n5 i = 128) ∧ n5 16 = 0 := by unfold n5; decide +kernel
def two (i : Nat) : Int := if i = 0 then 1 else 2
/-- what BuildKnown's calls find. -/
structure KN (gg cg gn gt : Nat) (W w : World) : Prop where
  g : Arr w .u8 gg 38016 (fun _ => 128)
  n : Arr w .u8 gn 38016 (fun _ => 0)
  t : Sl .u8 w (.slice (some ⟨gt, 0, none⟩) 2 2) 2 two
  bel : Below W.heap.size W w
  gnb : W.heap.size ≤ gn
theorem KN.below {gg cg gn gt : Nat} {W w w' : World} (h : KN gg cg gn gt W w) (hb : Below w.heap.size w w') : KN gg cg gn gt W w' :=
  ⟨h.g.below hb (h.g.lt (by omega)), h.n.below hb (h.n.lt (by omega)), h.t.below hb, chain h.bel hb, h.gnb⟩
section
variable {gg cg gn gt : Nat} {W w : World}
theorem KN.m1 (h : KN gg cg gn gt W w) (vb : Value) :
    Calls Tryz.prog 16 #[.slice (some ⟨gt, 0, none⟩) 2 2, .slice none 0 0, sp 0 1 1, mv M5 vb, .int .i64 7] w fun e w' => e = .returned (.int .i64 2) ∧ Below w.heap.size w w' :=
  (mac_no2 M5 vb 2 2 none 0 0 0 1 1 7 w known_e.2.2.2.2.1 (by decide) _)
theorem KN.m2 (h : KN gg cg gn gt W w) (vb : Value) (hb : M5.at w vb) :
    Calls Tryz.prog 16 #[.slice (some ⟨gg, 0, none⟩) 38016 cg, .slice (some ⟨gt, 0, none⟩) 2 2, sp 0 1 1, mv M5 vb, .int .i64 7] w fun e w' => e = .returned (.int .i64 2) ∧ Below w.heap.size w w' := by
  have := mac_no3 M5 vb 38016 cg (some ⟨gt, 0, none⟩) 2 2 two 0 1 1 7 w known_e.2.2.2.2.1 (by decide) (some ⟨gg, 0, none⟩) h.t (fun i => by unfold two; split <;> omega) hb (by rw [known_e.2.1]; decide)
  rw [known_e.2.1] at this
  exact this
theorem KN.m3 (h : KN gg cg gn gt W w) (vb : Value) (hb : M5.at w vb) :
    Calls Tryz.prog 16 #[.slice (some ⟨gg, 0, none⟩) 38016 cg, .slice none 0 0, sp 0 1 2, mv M5 vb, .int .i64 7] w fun e w' => e = .returned (.int .i64 2) ∧ Below w.heap.size w w' := by
  have := mac_no3 M5 vb 38016 cg none 0 0 (fun _ => 0) 0 1 2 7 w known_e.2.2.2.2.2 (by decide) (some ⟨gg, 0, none⟩) (nil_sl _ _) (fun _ => (show (0 : Int) ≤ 0 ∧ (0 : Int) ≤ 255 by omega)) hb (by rw [known_e.2.2.1]; decide)
  rw [known_e.2.2.1] at this
  exact this
theorem KN.m4 (h : KN gg cg gn gt W w) :
    Calls Tryz.prog 16 #[.slice (some ⟨gg, 0, none⟩) 38016 cg, .slice none 0 0, sp 0 1 1, .agg #[.int .i64 1, .int .i64 5, .int .i64 0, .int .i64 (-1), .int .i64 0, .int .i64 0, .slice none 0 0], .int .i64 7] w fun e w' => e = .returned (.int .i64 12) ∧ Below w.heap.size w w' := by
  have := mac_no3 MV (.slice none 0 0) 38016 cg none 0 0 (fun _ => 0) 0 1 1 7 w known_e.2.2.2.2.1 (by decide) (some ⟨gg, 0, none⟩) (nil_sl _ _) (fun _ => (show (0 : Int) ≤ 0 ∧ (0 : Int) ≤ 255 by omega)) (MV_at w) (by rw [known_e.2.2.2.1]; decide)
  rw [known_e.2.2.2.1] at this
  exact this
end
theorem make_38 : ∃ MK : World → World, ∀ w : World, (Instr.makeSlice 30 (.int .i64 38016) (.int .i64 38016)).run Tryz.prog w = .ok (.slice (some ⟨w.heap.size, 0, none⟩) 38016 38016) (MK w) ∧ Arr (MK w) .u8 w.heap.size 38016 (fun _ => 0) ∧ Below w.heap.size w (MK w) := by
  obtain ⟨i0, hi, hz0, hz1, hz2⟩ := info_parts info_byte
  have : ∀ w : World, ∃ w', (Instr.makeSlice 30 (.int .i64 38016) (.int .i64 38016)).run Tryz.prog w = .ok (.slice (some ⟨w.heap.size, 0, none⟩) 38016 38016) w' ∧ Arr w' .u8 w.heap.size 38016 (fun _ => 0) ∧ Below w.heap.size w w' := fun w => by
    obtain ⟨w', h1, h2, h3⟩ := run_make_full (P := Tryz.prog) w w.heap.size 30 5 i0 (.int .u8 0) 1 Tryz.underlying30 hi hz0 hz1 .i64 .i64 38016 (by rw [hz2]; omega) (by unfold maxLen; omega) (Nat.le_refl _)
    exact ⟨w', h1, Mo.made_arr h2, (Below.refl w.heap.size w).grown h3 (Nat.le_refl _) (fun _ e => by cases e)⟩
  exact ⟨fun w => Classical.choose (this w), fun w => Classical.choose_spec (this w)⟩
theorem two_new (V : World) : Sl .u8 (V.alloc (.cells #[.int .u8 1, .int .u8 2] 5)) (.slice (some ⟨V.heap.size, 0, none⟩) 2 2) 2 two :=
  arr_part (Arr.new V .u8 #[.int .u8 1, .int .u8 2] 5 2 two (fun i hi => by
    rcases (by omega : i = 0 ∨ i = 1) with rfl | rfl <;> rfl)) (by omega) (Nat.le_refl _) (by unfold maxLen; omega)
section
variable {gg cg : Nat} {W V0 w1 : World} {MK : World → World}
abbrev twoO : Obj := .cells #[.int .u8 1, .int .u8 2] 5
theorem kn_gmb (hM : ∀ w : World, Arr (MK w) .u8 w.heap.size 38016 (fun _ => 0) ∧ Below w.heap.size w (MK w)) (h0 : Below W.heap.size W V0) (b1 : Below V0.heap.size V0 w1) (hA : Arr w1 .u8 gg 38016 (fun _ => 128)) : KN gg cg w1.heap.size (MK w1).heap.size W ((MK w1).alloc twoO) := by
  have b2 := (hM w1).2
  have b3 := (Below.refl (MK w1).heap.size (MK w1)).alloc (Nat.le_refl _) twoO
  have a2 := hA.below b2 (hA.lt (by omega))
  have n1 := (hM w1).1
  exact ⟨a2.below b3 (a2.lt (by omega)), n1.below b3 (n1.lt (by omega)), two_new _, chain (chain (chain h0 b1) b2) b3, Nat.le_trans h0.size b1.size⟩
theorem kn_gbm (hM : ∀ w : World, Arr (MK w) .u8 w.heap.size 38016 (fun _ => 0) ∧ Below w.heap.size w (MK w)) (h0 : Below W.heap.size W V0) (b1 : Below V0.heap.size V0 w1) (hA : Arr w1 .u8 gg 38016 (fun _ => 128)) : KN gg cg (w1.heap.size + 1) w1.heap.size W (MK (w1.alloc twoO)) := by
  have b3 := (Below.refl w1.heap.size w1).alloc (Nat.le_refl _) twoO
  have b2 := (hM (w1.alloc twoO)).2
  have a2 := hA.below b3 (hA.lt (by omega))
  have a3 := (hM (w1.alloc twoO)).1
  rw [World.size_alloc] at a3
  exact ⟨a2.below b2 (a2.lt (by omega)), a3, (two_new w1).below b2, chain (chain (chain h0 b1) b3) b2, Nat.le_trans (Nat.le_trans h0.size b1.size) (Nat.le_succ _)⟩
theorem kn_mgb (hM : ∀ w : World, Arr (MK w) .u8 w.heap.size 38016 (fun _ => 0) ∧ Below w.heap.size w (MK w)) (h0 : Below W.heap.size W V0) (b1 : Below (MK V0).heap.size (MK V0) w1) (hA : Arr w1 .u8 gg 38016 (fun _ => 128)) : KN gg cg V0.heap.size w1.heap.size W (w1.alloc twoO) := by
  have b3 := (Below.refl w1.heap.size w1).alloc (Nat.le_refl _) twoO
  have n1 := (hM V0).1
  have n2 := n1.below b1 (n1.lt (by omega))
  exact ⟨hA.below b3 (hA.lt (by omega)), n2.below b3 (n2.lt (by omega)), two_new w1, chain (chain (chain h0 (hM V0).2) b1) b3, h0.size⟩
theorem kn_mbg (hM : ∀ w : World, Arr (MK w) .u8 w.heap.size 38016 (fun _ => 0) ∧ Below w.heap.size w (MK w)) (h0 : Below W.heap.size W V0) (b1 : Below ((MK V0).alloc twoO).heap.size ((MK V0).alloc twoO) w1) (hA : Arr w1 .u8 gg 38016 (fun _ => 128)) : KN gg cg V0.heap.size (MK V0).heap.size W w1 := by
  have b3 := (Below.refl (MK V0).heap.size (MK V0)).alloc (Nat.le_refl _) twoO
  have n1 := (hM V0).1
  have n2 := n1.below b3 (n1.lt (by omega))
  exact ⟨hA, n2.below b1 (n2.lt (by omega)), (two_new _).below b1, chain (chain (chain h0 (hM V0).2) b3) b1, h0.size⟩
theorem kn_bgm (hM : ∀ w : World, Arr (MK w) .u8 w.heap.size 38016 (fun _ => 0) ∧ Below w.heap.size w (MK w)) (b1 : Below (W.alloc twoO).drew.heap.size (W.alloc twoO).drew w1) (hA : Arr w1 .u8 gg 38016 (fun _ => 128)) : KN gg cg w1.heap.size W.heap.size W (MK w1) := by
  have b3 := ((Below.refl W.heap.size W).alloc (Nat.le_refl _) twoO)
  have b4 := (Below.refl (W.alloc twoO).heap.size (W.alloc twoO)).drew
  have b2 := (hM w1).2
  exact ⟨hA.below b2 (hA.lt (by omega)), (hM w1).1, (((two_new W).below b4).below b1).below b2, chain (chain (chain b3 b4) b1) b2, (chain (chain b3 b4) b1).size⟩
theorem kn_bmg (hM : ∀ w : World, Arr (MK w) .u8 w.heap.size 38016 (fun _ => 0) ∧ Below w.heap.size w (MK w)) (b1 : Below (MK (W.alloc twoO).drew).heap.size (MK (W.alloc twoO).drew) w1) (hA : Arr w1 .u8 gg 38016 (fun _ => 128)) : KN gg cg (W.heap.size + 1) W.heap.size W w1 := by
  have b3 := ((Below.refl W.heap.size W).alloc (Nat.le_refl _) twoO)
  have b4 := (Below.refl (W.alloc twoO).heap.size (W.alloc twoO)).drew
  have n1 := (hM (W.alloc twoO).drew).1
  have b2 := (hM (W.alloc twoO).drew).2
  have n2 := n1.below b1 (n1.lt (by omega))
  have e : (W.alloc twoO).drew.heap.size = W.heap.size + 1 := World.size_alloc ..
  rw [e] at n2
  exact ⟨hA, n2, (((two_new W).below b4).below b2).below b1, chain (chain (chain b3 b4) b2) b1, Nat.le_succ _⟩
end
set_option maxRecDepth 100000 in
set_option maxHeartbeats 4000000 in
theorem BuildKnown_any (w : World) : Calls Tryz.prog 7 #[] w fun e w' => e = .returned (.bool true) ∧ Below w.heap.size w w' := by
  obtain ⟨MK, hMK⟩ := make_38
  have HG : Hid (∀ V, Calls Tryz.prog 30 #[.int .i64 0] V fun e w' => ∃ v, e = .returned v ∧ Res .u8 V.heap.size w' v 38016 (fun _ => 128) ∧ Below V.heap.size V w') := Lib.hid (fun V => Pa.Grey_any 0 V)
  have hmk := fun w => (hMK w).1
  have HM := Lib.hid (fun w => (hMK w).2)
  clear hMK
  have H0 := Lib.hid ((Below.refl w.heap.size w).drew)
  go_enter Tryz.func7, Tryz.ntmps7
  go_upto_region 1 with fail
  go_cut [1, 2, 3] (fun u v t wx => ∃ gg cg gn gt : Nat, u = .slice (some ⟨gg, 0, none⟩) 38016 cg ∧ v = .slice (some ⟨gn, 0, none⟩) 38016 38016 ∧ t = .slice (some ⟨gt, 0, none⟩) 2 2 ∧ 38016 ≤ cg ∧ cg ≤ maxLen ∧ Hid (KN gg cg gn gt w wx))
  case first =>
    go_region_with (go_at_call 30; refine (HG.out _).mono ?_; rintro e w1 ⟨v, rfl, hR, b1⟩; obtain ⟨gg, cg, rfl, g1, g2, g3, g4, hA⟩ := res_arr hR (by omega); have HA := Lib.hid hA; have B1 := Lib.hid b1; clear hR hA b1)
    all_goals go_wp2_with fail
    all_goals go_meet
    all_goals (first
      | exact ⟨gg, cg, _, _, rfl, rfl, rfl, g3, g4, Lib.hid (kn_gmb HM.out H0.out B1.out HA.out)⟩
      | exact ⟨gg, cg, _, _, rfl, rfl, rfl, g3, g4, Lib.hid (kn_gbm HM.out H0.out B1.out HA.out)⟩
      | exact ⟨gg, cg, _, _, rfl, rfl, rfl, g3, g4, Lib.hid (kn_mgb (V0 := w.drew) HM.out H0.out B1.out HA.out)⟩
      | exact ⟨gg, cg, _, _, rfl, rfl, rfl, g3, g4, Lib.hid (kn_mbg (V0 := w.drew) HM.out H0.out B1.out HA.out)⟩
      | exact ⟨gg, cg, _, _, rfl, rfl, rfl, g3, g4, Lib.hid (kn_bgm HM.out B1.out HA.out)⟩
      | exact ⟨gg, cg, _, _, rfl, rfl, rfl, g3, g4, Lib.hid (kn_bmg HM.out B1.out HA.out)⟩)
  case rest =>
  obtain ⟨gg, cg, gn, gt, rfl, rfl, rfl, g3, g4, HK⟩ := hcut
  have HSM : Hid (∀ V vb, M5.at V vb → Calls Tryz.prog 15 #[.slice none 0 0, sp 0 1 1, mv M5 vb, .int .i64 7] V fun e w' => ∃ v, e = .returned (.tuple #[v, .int .i64 0]) ∧ Six V.heap.size w' v (fun _ _ => 5) ∧ Below V.heap.size V w') := Lib.hid (fun V vb hb => by
    have := Samples_any M5 vb none 0 0 (fun _ => 0) 0 1 1 7 V (nil_sl _ _) (fun _ => (show (0 : Int) ≤ 0 ∧ (0 : Int) ≤ 255 by omega)) hb
    rw [known_e.1] at this
    refine this.mono ?_
    rintro e w' ⟨v, h1, h2, _, h3⟩
    obtain ⟨g, c, Vs, e1, r1, r2, r3, r4, r5⟩ := h2 rfl
    refine ⟨v, h1, ⟨g, c, Vs, e1, r1, r2, r3, r4, fun i hi => ⟨(r5 i hi).1, ?_⟩⟩, h3⟩
    rcases (r5 i hi).2 with h | ⟨gi, ci, q1, q2, q3, q4, q5, q6⟩
    · exact .inl h
    · exact .inr ⟨gi, ci, q1, q2, q3, q4, q5, q6.congr (fun j hj => smp5 _ i j hi hj)⟩)
  clear HM hmk HG H0
  go_wp2_with (first
    | (go_at_call 38; refine (qcif_any _ _).mono ?_; rintro e w2 ⟨rfl, b2⟩; have HK := Lib.hid (HK.out.below b2); clear b2)
    | (go_at_call 39; refine (five_any _).mono ?_; rintro e w3 ⟨vb, rfl, hM, b3⟩; have HM5 := Lib.hid hM; have HK := Lib.hid (HK.out.below b3); clear hM b3)
    | (go_at_call 15; refine (HSM.out _ _ HM5.out).mono ?_; rintro e w4 ⟨v, rfl, hv, b4⟩; obtain ⟨sg, sc, Vs, rfl, v1, v2, v3, v4⟩ := hv.row; have HK := Lib.hid (HK.out.below b4); have c0 := (v4 0 (by omega)).1; have HS0 := Lib.hid (v4 0 (by omega)).2.2; clear hv b4 v4; obtain ⟨sb0, so0, e0, hl0, hI0⟩ := Pa.sl_row HS0.out (by omega); cases e0; have c1 := hI0 0 (by omega); have c2 := hI0 63 (by omega); simp only [Nat.zero_add] at c1 c2; clear hI0 HS0))
  have bm := ((Below.refl w4.heap.size w4).alloc (Nat.le_refl _) (.cells #[.int .i64 1, .int .i64 5, .int .i64 0, .int .i64 (-1), .int .i64 0, .int .i64 0, .slice none 0 0] 24)).drew
  have HK := Lib.hid (HK.out.below bm)
  have HV : Hid (At _ _ _ _) := Lib.hid ((At.new w4 #[.int .i64 1, .int .i64 5, .int .i64 0, .int .i64 (-1), .int .i64 0, .int .i64 0, .slice none 0 0] 24).below (Below.refl _ _).drew)
  clear bm c0 c1 c2 HSM HM5
  generalize w4.alloc (.cells #[.int .i64 1, .int .i64 5, .int .i64 0, .int .i64 (-1), .int .i64 0, .int .i64 0, .slice none 0 0] 24) = W5 at *
  generalize w4.heap.size = mB at *
  have t0 := HV.out.cell 0 _ rfl
  have t1 := HV.out.cell 1 _ rfl
  have t2 := HV.out.cell 2 _ rfl
  have t3 := HV.out.cell 3 _ rfl
  have t4 := HV.out.cell 4 _ rfl
  have t5 := HV.out.cell 5 _ rfl
  have t6 := HV.out.cell 6 _ rfl
  have T1 := Lib.hid trivial
  have T2 := Lib.hid trivial
  have T3 := Lib.hid trivial
  have T4 := Lib.hid trivial
  have T5 := Lib.hid trivial
  go_cut [7] (fun u wx => u = .bool true ∧ Hid (KN gg cg gn gt w wx))
  case first =>
    go_region_with (first
      | (go_at_call 38; refine (qcif_any _ _).mono ?_; rintro e w2 ⟨rfl, b2⟩; have HK := Lib.hid (HK.out.below b2); have HV := Lib.hid (HV.out.below b2); clear b2 t0 t1 t2 t3 t4 t5 t6 ; have t0 := HV.out.cell 0 _ rfl; have t1 := HV.out.cell 1 _ rfl; have t2 := HV.out.cell 2 _ rfl; have t3 := HV.out.cell 3 _ rfl; have t4 := HV.out.cell 4 _ rfl; have t5 := HV.out.cell 5 _ rfl; have t6 := HV.out.cell 6 _ rfl)
      | (go_at_call 39; refine (five_any _).mono ?_; rintro e w3 ⟨vb, rfl, hM, b2⟩; have HM5 := Lib.hid hM; have HK := Lib.hid (HK.out.below b2); have HV := Lib.hid (HV.out.below b2); clear hM b2 t0 t1 t2 t3 t4 t5 t6 ; have t0 := HV.out.cell 0 _ rfl; have t1 := HV.out.cell 1 _ rfl; have t2 := HV.out.cell 2 _ rfl; have t3 := HV.out.cell 3 _ rfl; have t4 := HV.out.cell 4 _ rfl; have t5 := HV.out.cell 5 _ rfl; have t6 := HV.out.cell 6 _ rfl)
      | (go_at_call 16; clear T1; refine (HK.out.m1 vb).mono ?_; rintro e w4 ⟨rfl, b2⟩; have HK := Lib.hid (HK.out.below b2); have HV := Lib.hid (HV.out.below b2); clear b2 t0 t1 t2 t3 t4 t5 t6 ; have t0 := HV.out.cell 0 _ rfl; have t1 := HV.out.cell 1 _ rfl; have t2 := HV.out.cell 2 _ rfl; have t3 := HV.out.cell 3 _ rfl; have t4 := HV.out.cell 4 _ rfl; have t5 := HV.out.cell 5 _ rfl; have t6 := HV.out.cell 6 _ rfl)
      | (go_at_call 16; clear T2; refine (HK.out.m2 vb HM5.out).mono ?_; rintro e w4 ⟨rfl, b2⟩; have HK := Lib.hid (HK.out.below b2); have HV := Lib.hid (HV.out.below b2); clear b2 t0 t1 t2 t3 t4 t5 t6 ; have t0 := HV.out.cell 0 _ rfl; have t1 := HV.out.cell 1 _ rfl; have t2 := HV.out.cell 2 _ rfl; have t3 := HV.out.cell 3 _ rfl; have t4 := HV.out.cell 4 _ rfl; have t5 := HV.out.cell 5 _ rfl; have t6 := HV.out.cell 6 _ rfl)
      | (go_at_call 16; clear T3; refine (HK.out.m3 vb HM5.out).mono ?_; rintro e w4 ⟨rfl, b2⟩; have HK := Lib.hid (HK.out.below b2); have HV := Lib.hid (HV.out.below b2); clear b2 t0 t1 t2 t3 t4 t5 t6 ; have t0 := HV.out.cell 0 _ rfl; have t1 := HV.out.cell 1 _ rfl; have t2 := HV.out.cell 2 _ rfl; have t3 := HV.out.cell 3 _ rfl; have t4 := HV.out.cell 4 _ rfl; have t5 := HV.out.cell 5 _ rfl; have t6 := HV.out.cell 6 _ rfl)
      | (go_at_call 16; clear T4; refine (HK.out.m4).mono ?_; rintro e w4 ⟨rfl, b2⟩; have HK := Lib.hid (HK.out.below b2); have HV := Lib.hid (HV.out.below b2); clear b2 t0 t1 t2 t3 t4 t5 t6 ; have t0 := HV.out.cell 0 _ rfl; have t1 := HV.out.cell 1 _ rfl; have t2 := HV.out.cell 2 _ rfl; have t3 := HV.out.cell 3 _ rfl; have t4 := HV.out.cell 4 _ rfl; have t5 := HV.out.cell 5 _ rfl; have t6 := HV.out.cell 6 _ rfl))
    all_goals (go_wp2_with fail; go_meet; exact ⟨rfl, HK⟩)
  case rest =>
  obtain ⟨rfl, HK⟩ := hcut
  clear t0 t1 t2 t3 t4 t5 t6 HV
  go_wp2_with (first
    | (go_at_call 38; refine (qcif_any _ _).mono ?_; rintro e w2 ⟨rfl, b2⟩; have HK := Lib.hid (HK.out.below b2); clear b2)
    | (go_at_call 26; refine (skip_yes gn 38016 38016 38016 none 0 0 (fun _ => 0) (fun _ => 0) 0 1 1 w2 HK.out.n (Nat.le_refl _) (Nat.le_refl _) (by omega) known_e.2.2.2.2.1 (by decide) (.inl rfl) (nil_sl _ _) (fun h => absurd h (by omega))).mono ?_; rintro e w3 ⟨rfl, hA, hG⟩; have HN : Hid (Arr w3 .u8 gn 38016 n5) := Lib.hid hA; have HB := Lib.hid (HK.out.bel.grown hG HK.out.bel.size (fun q e => by have := HK.out.gnb; have := Option.some.inj e; omega)); clear hA hG HK)
    | (go_at_call 40; refine (begins_yes _ 38016 38016 n5 128 0 _ (arr_part HN.out (by omega) (Nat.le_refl _) (by unfold maxLen; omega)) (by omega) n5_vals.1 n5_vals.2).mono ?_; rintro e w5 ⟨rfl, rfl⟩)
    | (go_at_call 10; refine (awake_any _).mono ?_; rintro e w6 ⟨rfl, b2⟩; have HB := Lib.hid (chain HB.out b2); clear b2)
    | (go_at_call 35; clear T5; refine (grp_no 2 8 (.inl ⟨rfl, rfl⟩) _ _ _).mono ?_; rintro e w7 ⟨rfl, b2⟩; have HB := Lib.hid (chain HB.out b2); clear b2)
    | (go_at_call 35; refine (grp_no 1 2 (.inr ⟨rfl, rfl⟩) _ _ _).mono ?_; rintro e w7 ⟨rfl, b2⟩; have HB := Lib.hid (chain HB.out b2); clear b2))
  go_ret
  exact ⟨rfl, HB.out⟩
end Bl
end Go.Proofs.YtbmglemjfodfhaaGreat

namespace Go.Proofs.YtbmglemjfodfhaaGreat
open Go.RowKit
namespace Bl
open Bk Fr Pt Kd Bu

theorem layS_at {n g a : Int} (S : Nat → Nat → Int) (f : Nat → Int) {k i : Nat} (hc : cE n g a = 0) (hk : 1 ≤ k ∧ k ≤ 6) (hi : i < 64) : ∀ m, k ≤ m → m ≤ 6 → layS n g a S f m (Pa.adr n g a k i) = S (k - 1) i
  | 0, h, _ => by omega
  | m + 1, h, hm => by
    by_cases e : k = m + 1
    · subst e
      have fit := Pa.bl_fit n g a (m + 1) hc (by omega)
      exact Pa.lay_at (Pa.blA n g a (m + 1)) (Pa.blS n g a (m + 1)) (S m) (layS n g a S f m) fit.2.2.2.1 64 i hi
    · have ih := layS_at S f hc hk hi m (by omega) (by omega)
      rw [← ih]
      exact Pa.lay_off (Pa.blA n g a (m + 1)) (Pa.blS n g a (m + 1)) (S m) (layS n g a S f m) _ 64 (fun j hj e2 => e (Pa.adr_apart n g a k (m + 1) i j hc hk (by omega) hi hj e2).1)
theorem intra_plain {n g a : Int} (S : Nat → Nat → Int) (fx fy : Nat → Int) (hc : cE n g a = 0) (p : Nat) : layS n g a S fy 6 p = Pa.copF n g a (layS n g a S fx 6) (layS n g a S fy 6) 6 p := by
  by_cases h : ∃ k i, (1 ≤ k ∧ k ≤ 6) ∧ i < 64 ∧ p = Pa.adr n g a k i
  · obtain ⟨k, i, hk, hi, rfl⟩ := h
    rw [Pa.cop_in hc hk hi 6 hk.2 (Nat.le_refl _), layS_at S fx hc hk hi 6 hk.2 (Nat.le_refl _), layS_at S fy hc hk hi 6 hk.2 (Nat.le_refl _)]
  · rw [Pa.cop_off 6 (fun k i h1 h2 h3 e => h ⟨k, i, ⟨h1, h2⟩, h3, e⟩)]
theorem intra_v {k : Int} (h : pI k = true) : pV k = false := by
  unfold pI at h; unfold pV
  simp only [Bool.and_eq_true, decide_eq_true_eq] at h
  rw [h.1, show decide (5 ≤ k) = false from decide_eq_false (by omega)]; rfl
theorem smE_intra {M : MB} {n g : Int} {N : Nat} {q : Int} (he : M.e = 0) (hI : pI M.kd = true) (hc : cE n g M.ad = 0) (hN : (N : Int) = zV n) (hq : 1 ≤ q ∧ q ≤ 31) : smE M n g M.ad N q = 0 := by
  unfold smE
  rw [if_neg (by omega), if_neg, if_neg (by omega), if_neg]
  · rintro ⟨h, _⟩; rw [intra_v hI] at h; cases h
  · rintro (h | h | h)
    · omega
    · exact h he
    · exact h rfl
theorem smp_intra {M : MB} (n g a : Int) (F F' : Nat → Int) (q : Int) (hI : pI M.kd = true) : smp M n g a F q = smp M n g a F' q := by
  have e : ∀ i, pP M n g a F i = pP M n g a F' i := fun i => by unfold pP; rw [if_pos hI, if_pos hI]
  funext i
  unfold smp
  rw [e i]
/-- the worlds of BuildIntra. -/
structure IC where
  (M : MB) (vb : Value) (n g : Int) (mB spB gx gy N : Nat) (q : Int)
structure IC.ok (c : IC) (W : World) : Prop where
  b : W.heap.size ≤ c.mB ∧ W.heap.size ≤ c.spB ∧ W.heap.size ≤ c.gx ∧ W.heap.size ≤ c.gy
  d : c.mB ≠ c.gx ∧ c.spB ≠ c.gx ∧ c.gy ≠ c.gx ∧ c.mB ≠ c.gy ∧ c.spB ≠ c.gy
  cap : c.N ≤ maxLen
  hc : cE c.n c.g c.M.ad = 0
  N : (c.N : Int) = zV c.n
  n0 : 0 < c.N
  q : 1 ≤ c.q ∧ c.q ≤ 31
  he : c.M.e = 0
  hI : pI c.M.kd = true
  m : c.M.at W c.vb
structure IK (c : IC) (W w : World) (fx fy : Nat → Int) : Prop where
  mac : At w c.mB #[.int .i64 c.M.ad, .int .i64 c.M.kd, .int .i64 c.M.qt, .int .i64 c.M.x, .int .i64 c.M.y, .int .i64 c.M.pt, c.vb] 24
  spot : At w c.spB #[.int .i64 c.n, .int .i64 c.g, .int .i64 c.M.ad] 28
  x : Arr w .u8 c.gx c.N fx
  y : Arr w .u8 c.gy c.N fy
  bel : Below W.heap.size W w
def IC.S (c : IC) : Nat → Nat → Int := smp c.M c.n c.g c.M.ad (fun _ => 0) c.q
section
variable {c : IC} {W w : World} {fx fy : Nat → Int}
theorem IK.below {w' : World} (h : IK c W w fx fy) (ok : c.ok W) (hb : Below w.heap.size w w') : IK c W w' fx fy :=
  ⟨h.mac.below hb, h.spot.below hb, h.x.below hb (h.x.lt ok.n0), h.y.below hb (h.y.lt ok.n0), chain h.bel hb⟩
theorem IK.cells (h : IK c W w fx fy) : w.cell? ⟨c.spB, 0, none⟩ = some (.int .i64 c.n) ∧ w.cell? ⟨c.spB, 1, none⟩ = some (.int .i64 c.g) ∧ w.cell? ⟨c.spB, 2, none⟩ = some (.int .i64 c.M.ad)
    ∧ w.cell? ⟨c.mB, 0, none⟩ = some (.int .i64 c.M.ad) ∧ w.cell? ⟨c.mB, 1, none⟩ = some (.int .i64 c.M.kd) ∧ w.cell? ⟨c.mB, 2, none⟩ = some (.int .i64 c.M.qt) ∧ w.cell? ⟨c.mB, 3, none⟩ = some (.int .i64 c.M.x) ∧ w.cell? ⟨c.mB, 4, none⟩ = some (.int .i64 c.M.y) ∧ w.cell? ⟨c.mB, 5, none⟩ = some (.int .i64 c.M.pt) ∧ w.cell? ⟨c.mB, 6, none⟩ = some c.vb :=
  ⟨h.spot.cell 0 _ rfl, h.spot.cell 1 _ rfl, h.spot.cell 2 _ rfl, h.mac.cell 0 _ rfl, h.mac.cell 1 _ rfl, h.mac.cell 2 _ rfl, h.mac.cell 3 _ rfl, h.mac.cell 4 _ rfl, h.mac.cell 5 _ rfl, h.mac.cell 6 _ rfl⟩
theorem IK.macX (h : IK c W w fx fy) (ok : c.ok W) (gf : Nat) (F : Nat → Int) (hf : Arr w .u8 gf c.N F) (bd : ∀ i, 0 ≤ F i ∧ F i ≤ 255) :
    Calls Tryz.prog 16 #[.slice (some ⟨c.gx, 0, none⟩) c.N c.N, .slice (some ⟨gf, 0, none⟩) c.N c.N, sp c.n c.g c.M.ad, mv c.M c.vb, .int .i64 c.q] w fun e w' => e = .returned (.int .i64 0) ∧ IK c W w' (layS c.n c.g c.M.ad c.S fx 6) fy := by
  obtain ⟨d1, d2, d3, d4, d5⟩ := ok.d
  obtain ⟨b1, b2, b3, b4⟩ := ok.b
  have := Macro_any c.M c.vb c.gx c.N c.N c.N (some ⟨gf, 0, none⟩) c.N c.N fx F c.n c.g c.M.ad c.q w h.x (Nat.le_refl _) (Nat.le_refl _) ok.n0 (arr_part hf ok.n0 (Nat.le_refl _) ok.cap) bd (ok.m.below h.bel)
  have e0 : macE c.M c.n c.g c.M.ad c.N c.N c.q = 0 := by rw [smE_own c.q ok.hc ok.N]; exact smE_intra ok.he ok.hI ok.hc ok.N ok.q
  unfold macF at this
  rw [e0, if_pos rfl, smp_intra c.n c.g c.M.ad _ (fun _ => 0) c.q ok.hI] at this
  refine this.mono ?_
  rintro e w' ⟨h1, h2, h3⟩
  exact ⟨h1, h.mac.kept h3 (fun e => d1 (Option.some.inj e)), h.spot.kept h3 (fun e => d2 (Option.some.inj e)), h2, h.y.grown h3 (fun e => d3 (Option.some.inj e)), h.bel.grown h3 h.bel.size (fun q e => by have := Option.some.inj e; omega)⟩
theorem IK.macY (h : IK c W w fx fy) (ok : c.ok W) (gf : Nat) (F : Nat → Int) (hf : Arr w .u8 gf c.N F) (bd : ∀ i, 0 ≤ F i ∧ F i ≤ 255) :
    Calls Tryz.prog 16 #[.slice (some ⟨c.gy, 0, none⟩) c.N c.N, .slice (some ⟨gf, 0, none⟩) c.N c.N, sp c.n c.g c.M.ad, mv c.M c.vb, .int .i64 c.q] w fun e w' => e = .returned (.int .i64 0) ∧ IK c W w' fx (layS c.n c.g c.M.ad c.S fy 6) := by
  obtain ⟨d1, d2, d3, d4, d5⟩ := ok.d
  obtain ⟨b1, b2, b3, b4⟩ := ok.b
  have := Macro_any c.M c.vb c.gy c.N c.N c.N (some ⟨gf, 0, none⟩) c.N c.N fy F c.n c.g c.M.ad c.q w h.y (Nat.le_refl _) (Nat.le_refl _) ok.n0 (arr_part hf ok.n0 (Nat.le_refl _) ok.cap) bd (ok.m.below h.bel)
  have e0 : macE c.M c.n c.g c.M.ad c.N c.N c.q = 0 := by rw [smE_own c.q ok.hc ok.N]; exact smE_intra ok.he ok.hI ok.hc ok.N ok.q
  unfold macF at this
  rw [e0, if_pos rfl, smp_intra c.n c.g c.M.ad _ (fun _ => 0) c.q ok.hI] at this
  refine this.mono ?_
  rintro e w' ⟨h1, h2, h3⟩
  exact ⟨h1, h.mac.kept h3 (fun e => d4 (Option.some.inj e)), h.spot.kept h3 (fun e => d5 (Option.some.inj e)), h.x.grown h3 (fun e => d3 (Option.some.inj e).symm), h2, h.bel.grown h3 h.bel.size (fun q e => by have := Option.some.inj e; omega)⟩
end
set_option maxRecDepth 100000 in
set_option maxHeartbeats 4000000 in
theorem BuildIntra_any (fo gr : Int) (M : MB) (vb : Value) (qu sa sb sc sd : Int) (w : World) (_ : (Lit.int .i64 fo).wf = true) (_ : (Lit.int .i64 gr).wf = true) (hM0 : MB.raw M w vb) (_ : (Lit.int .i64 qu).wf = true) (_ : (Lit.int .i64 sa).wf = true) (_ : (Lit.int .i64 sb).wf = true) (_ : (Lit.int .i64 sc).wf = true) (_ : (Lit.int .i64 sd).wf = true) :
    Calls Tryz.prog 8 #[.int .i64 fo, .int .i64 gr, mv M vb, .int .i64 qu, .int .i64 sa, .int .i64 sb, .int .i64 sc, .int .i64 sd] w fun e w' => e = .returned (.bool true) ∧ Below w.heap.size w w' := by
  have HM0 := Lib.hid hM0
  clear hM0
  have HB := Lib.hid ((Below.refl w.heap.size w).alloc (Nat.le_refl _) (.cells #[.int .i64 M.ad, .int .i64 M.kd, .int .i64 M.qt, .int .i64 M.x, .int .i64 M.y, .int .i64 M.pt, vb] 24))
  have H10 : Hid (At _ _ _ _) := Lib.hid (At.new w #[.int .i64 M.ad, .int .i64 M.kd, .int .i64 M.qt, .int .i64 M.x, .int .i64 M.y, .int .i64 M.pt, vb] 24)
  go_enter Tryz.func8, Tryz.ntmps8
  go_wp2_with fail
  refine (BuildKnown_any _).mono ?_
  rintro e v1 ⟨rfl, h1⟩
  have HB := Lib.hid (chain HB.out h1)
  have H10 := Lib.hid (H10.out.below h1)
  clear h1
  have m0 := H10.out.cell 0 _ rfl
  have m1 := H10.out.cell 1 _ rfl
  have m2 := H10.out.cell 2 _ rfl
  have m3 := H10.out.cell 3 _ rfl
  have m4 := H10.out.cell 4 _ rfl
  have m5 := H10.out.cell 5 _ rfl
  have m6 := H10.out.cell 6 _ rfl
  go_wp2_with fail
  refine (LongMacro_any M vb _ (HM0.out.below HB.out)).mono ?_
  rintro e v2 ⟨bl, rfl, hsh, h1⟩
  have HB := Lib.hid (chain HB.out h1)
  have H10 := Lib.hid (H10.out.below h1)
  have HSH := Lib.hid hsh
  clear h1 m0 m1 m2 m3 m4 m5 m6 hsh
  cases bl with
  | true =>
    go_wp2_with fail
    go_ret
    exact ⟨rfl, HB.out⟩
  | false =>
  have m0 := H10.out.cell 0 _ rfl
  have m1 := H10.out.cell 1 _ rfl
  have m2 := H10.out.cell 2 _ rfl
  have m3 := H10.out.cell 3 _ rfl
  have m4 := H10.out.cell 4 _ rfl
  have m5 := H10.out.cell 5 _ rfl
  have m6 := H10.out.cell 6 _ rfl
  have HM : Hid (M.at w vb) := Lib.hid ((HSH.out rfl).at HM0.out)
  clear HSH HM0
  go_wp2_with fail
  refine (mCheck_any M vb _ (HM.out.below HB.out)).mono ?_
  rintro e v3 ⟨rfl, h1⟩
  have HB := Lib.hid (chain HB.out h1)
  have H10 := Lib.hid (H10.out.below h1)
  clear h1 m0 m1 m2 m3 m4 m5 m6
  by_cases he : M.e = 0
  case neg =>
    obtain ⟨E, hE⟩ : ∃ E, M.e = E := ⟨_, rfl⟩
    rw [hE] at he ⊢
    have t1 : (E != 0) = true := by simpa using he
    clear hE he
    go_wp2_with fail
    go_ret
    exact ⟨rfl, HB.out⟩
  case pos =>
  rw [he]
  have HE := Lib.hid he
  obtain ⟨_, _, _, hk, ha1, ha2⟩ := ok_xy he
  have HAD : Hid (1 ≤ M.ad ∧ M.ad ≤ 33) := Lib.hid ⟨ha1, ha2⟩
  have na1 : ¬ M.ad < 1 := by omega
  have na2 : ¬ 33 < M.ad := by omega
  have HK := Lib.hid (fun V => Of_any M.kd V)
  unfold parts at HK
  rw [show kE M.kd = 0 by unfold kE; rw [hk]; rfl] at HK
  obtain ⟨zQ, hQ⟩ : ∃ z, pQ M.kd = z := ⟨_, rfl⟩
  obtain ⟨zV', hV⟩ : ∃ z, pV M.kd = z := ⟨_, rfl⟩
  obtain ⟨zF, hF⟩ : ∃ z, pF M.kd = z := ⟨_, rfl⟩
  obtain ⟨zC, hC⟩ : ∃ z, pC M.kd = z := ⟨_, rfl⟩
  obtain ⟨zI, hI⟩ : ∃ z, pI M.kd = z := ⟨_, rfl⟩
  rw [hI, hQ, hV, hF, hC] at HK
  have HI := Lib.hid hI
  clear he hk ha1 ha2 hQ hV hF hC hI
  have m0 := H10.out.cell 0 _ rfl
  have m1 := H10.out.cell 1 _ rfl
  go_wp2_with fail
  refine (HK.out _).mono ?_
  rintro e v4 ⟨rfl, h1⟩
  have b4 := (Below.refl v4.heap.size v4).alloc (Nat.le_refl _) (.cells #[.bool zI, .bool zQ, .bool zV', .bool zF, .bool zC] 67)
  have HP := Lib.hid (At.new v4 #[.bool zI, .bool zQ, .bool zV', .bool zF, .bool zC] 67)
  have HB := Lib.hid (chain (chain HB.out h1) b4)
  have H10 := Lib.hid ((H10.out.below h1).below b4)
  have p0 := HP.out.cell 0 _ rfl
  clear h1 b4 m0 m1 na1 na2 HK
  have m0 := H10.out.cell 0 _ rfl
  have m1 := H10.out.cell 1 _ rfl
  have m2 := H10.out.cell 2 _ rfl
  have m3 := H10.out.cell 3 _ rfl
  have m4 := H10.out.cell 4 _ rfl
  have m5 := H10.out.cell 5 _ rfl
  have m6 := H10.out.cell 6 _ rfl
  cases zI with
  | false =>
    go_wp2_with fail
    go_ret
    exact ⟨rfl, HB.out⟩
  | true =>
  have hc0 := spot_ok fo gr (M.ad - 1)
  rw [show 1 + (M.ad - 1) % 33 = M.ad by have := HAD.out; omega] at hc0
  have SP := Lib.hid (fun V => spotted_any fo gr M vb V HAD.out)
  obtain ⟨q1, hq1⟩ : ∃ q, qu % 31 = q := ⟨_, rfl⟩
  have qb : 0 ≤ q1 ∧ q1 ≤ 30 := by omega
  have eq1 : IntKind.i64.wrap (1 + q1) = 1 + q1 := IntWalk.i64_in _ (by omega)
  have HQ1 := Lib.hid hq1
  obtain ⟨g, hg⟩ : ∃ g, (if fo % 2 = 0 then 1 + 2 * (gr % 3) else 1 + gr % 12) = g := ⟨_, rfl⟩
  obtain ⟨n, hn⟩ : ∃ n, fo % 2 = n := ⟨_, rfl⟩
  have hn01 : n = 0 ∨ n = 1 := by omega
  rw [hg] at SP hc0
  rw [hn] at SP hc0
  obtain ⟨N, hN⟩ : ∃ N : Nat, (N : Int) = zV n := ⟨(zV n).toNat, by rcases hn01 with rfl | rfl <;> rfl⟩
  have Nb : 38016 ≤ N ∧ N ≤ 152064 := by rcases hn01 with rfl | rfl <;> (have : (N : Int) = _ := hN; simp [zV] at this; omega)
  have Nm : N ≤ maxLen := Nat.le_trans Nb.2 (by decide)
  have N0 : 0 < N := by omega
  have H01 := Lib.hid hn01
  have HN := Lib.hid hN
  have HC := Lib.hid hc0
  clear hn01 hN hc0 hn hg hq1
  go_wp2_with fail
  refine (Pick_any qu 31 _ (by omega) (by omega)).mono ?_
  rintro e v5 ⟨rfl, rfl⟩
  rw [HQ1.out]
  go_wp2_with fail
  refine (SP.out _).mono ?_
  rintro e v5 ⟨rfl, h2⟩
  have HB := Lib.hid (chain HB.out h2)
  have H10 := Lib.hid (H10.out.below h2)
  clear h2 m0 m1 m2 m3 m4 m5 m6 SP p0 HP
  have zb := HB.out.size
  have hmb := H10.out.lt
  have b3 := ((Below.refl v5.heap.size v5).alloc (Nat.le_refl _) (.cells #[.int .i64 n, .int .i64 g, .int .i64 M.ad] 28)).drew
  have HP : Hid (At (v5.alloc (.cells #[.int .i64 n, .int .i64 g, .int .i64 M.ad] 28)).drew v5.heap.size #[.int .i64 n, .int .i64 g, .int .i64 M.ad] 28) := Lib.hid ((At.new v5 _ _).below (Below.refl _ _).drew)
  have HB := Lib.hid (chain HB.out b3)
  have H10 := Lib.hid (H10.out.below b3)
  have s0 := HP.out.cell 0 _ rfl
  clear b3
  go_upto_region 11 with fail
  go_cut [21, 22] (fun u v wx => ∃ (gi gf : Nat) (f0 F2 : Nat → Int), u = .slice (some ⟨gi, 0, none⟩) N N ∧ v = .slice (some ⟨gf, 0, none⟩) N N ∧ v5.heap.size < gi ∧ v5.heap.size < gf ∧ gi ≠ gf ∧ Arr wx .u8 gi N f0 ∧ Arr wx .u8 gf N F2 ∧ At wx v5.heap.size #[.int .i64 n, .int .i64 g, .int .i64 M.ad] 28 ∧ Hid (At wx w.heap.size #[.int .i64 M.ad, .int .i64 M.kd, .int .i64 M.qt, .int .i64 M.x, .int .i64 M.y, .int .i64 M.pt, vb] 24) ∧ Below w.heap.size w wx)
  case first =>
    go_region_with (first
      | (go_at_call_of 13 sa; refine (Mo.SceneB_any n sa 1 N H01.out HN.out _).mono ?_; rintro e V1 ⟨gi, f0, rfl, i1, i2, hA, _, h4⟩; have l1 := Nat.lt_of_lt_of_le HP.out.lt i1; (try have ne : gi ≠ gf := by omega); (try have HF := Lib.hid (HF.out.below h4 i4)); have HI2 := Lib.hid hA; have HP := Lib.hid (HP.out.below h4); have H10 := Lib.hid (H10.out.below h4); have HB := Lib.hid (chain HB.out h4); have s0 := HP.out.cell 0 _ rfl; clear hA h4)
      | (go_at_call_of 13 sb; refine (Mo.SceneB_any n sb 1 N H01.out HN.out _).mono ?_; rintro e V2 ⟨gf, F2, rfl, i3, i4, hA, _, h5⟩; have l2 := Nat.lt_of_lt_of_le HP.out.lt i3; (try have ne : gi ≠ gf := by omega); (try have HI2 := Lib.hid (HI2.out.below h5 i2)); have HF := Lib.hid hA; have HP := Lib.hid (HP.out.below h5); have H10 := Lib.hid (H10.out.below h5); have HB := Lib.hid (chain HB.out h5); have s0 := HP.out.cell 0 _ rfl; clear hA h5))
    all_goals (go_wp2_with fail; go_meet; exact ⟨_, _, _, _, rfl, rfl, l1, l2, ne, HI2.out, HF.out, HP.out, H10, HB.out⟩)
  case rest =>
  obtain ⟨gi, gf, f0, F2, rfl, rfl, l1, l2, ne, hI, hF, hP, H10, hB⟩ := hcut
  have HA : Hid (Arr wc .u8 gi N f0 ∧ Arr wc .u8 gf N F2 ∧ At wc v5.heap.size #[.int .i64 n, .int .i64 g, .int .i64 M.ad] 28 ∧ Below w.heap.size w wc) := Lib.hid ⟨hI, hF, hP, hB⟩
  clear hI hF hP hB s0
  go_upto_region 12 with fail
  have ok : IC.ok ⟨M, vb, n, g, w.heap.size, v5.heap.size, gi, gf, N, 1 + q1⟩ w := ⟨⟨Nat.le_refl _, zb, by show w.heap.size ≤ gi; omega, by show w.heap.size ≤ gf; omega⟩, ⟨by show w.heap.size ≠ gi; omega, by show v5.heap.size ≠ gi; omega, by show gf ≠ gi; omega, by show w.heap.size ≠ gf; omega, by show v5.heap.size ≠ gf; omega⟩, Nm, HC.out, HN.out, N0, (by show 1 ≤ 1 + q1 ∧ 1 + q1 ≤ 31; omega), HE.out, HI.out, HM.out⟩
  have KK := Lib.hid ok
  have S0 : Hid (IK ⟨M, vb, n, g, w.heap.size, v5.heap.size, gi, gf, N, 1 + q1⟩ w wc.drew f0 F2) := Lib.hid (IK.below ⟨H10.out, HA.out.2.2.1, HA.out.1, HA.out.2.1, HA.out.2.2.2⟩ ok (Below.refl _ _).drew)
  have T1 := Lib.hid trivial
  have T2 := Lib.hid trivial
  clear ok HA H10 HB
  obtain ⟨c0, c1, c2, c3, c4, c5, c6, c7, c8, c9⟩ := S0.out.cells
  go_region_held3 (fun w' => w'.cell? ⟨v5.heap.size, 0, none⟩ = some (.int .i64 n) ∧ w'.cell? ⟨v5.heap.size, 1, none⟩ = some (.int .i64 g) ∧ w'.cell? ⟨v5.heap.size, 2, none⟩ = some (.int .i64 M.ad) ∧ w'.cell? ⟨w.heap.size, 0, none⟩ = some (.int .i64 M.ad) ∧ w'.cell? ⟨w.heap.size, 1, none⟩ = some (.int .i64 M.kd) ∧ w'.cell? ⟨w.heap.size, 2, none⟩ = some (.int .i64 M.qt) ∧ w'.cell? ⟨w.heap.size, 3, none⟩ = some (.int .i64 M.x) ∧ w'.cell? ⟨w.heap.size, 4, none⟩ = some (.int .i64 M.y) ∧ w'.cell? ⟨w.heap.size, 5, none⟩ = some (.int .i64 M.pt) ∧ w'.cell? ⟨w.heap.size, 6, none⟩ = some vb)
    (first | exact S0.out.cells | exact S1.out.cells | exact S2.out.cells | exact S3.out.cells | exact S4.out.cells)
    (first
      | (go_at_call_of 13 sc; refine (Mo.SceneB_any n sc 2 N H01.out HN.out _).mono ?_; rintro e V1 ⟨gf1, F1, rfl, i1, i2, hA, fbd, h4⟩; have HA1 := Lib.hid hA; have BD1 := Lib.hid fbd; have S1 := Lib.hid (S0.out.below KK.out h4); clear hA fbd h4)
      | (go_at_call 16; clear T1; refine (S1.out.macX KK.out gf1 F1 HA1.out BD1.out).mono ?_; rintro e V2 ⟨rfl, hS⟩; have S2 := Lib.hid hS; clear hS)
      | (go_at_call_of 13 sd; refine (Mo.SceneB_any n sd 2 N H01.out HN.out _).mono ?_; rintro e V3 ⟨gf2, F3, rfl, i1, i2, hA, fbd, h4⟩; have HA2 := Lib.hid hA; have BD2 := Lib.hid fbd; have S3 := Lib.hid (S2.out.below KK.out h4); clear hA fbd h4)
      | (go_at_call 16; clear T2; refine (S3.out.macY KK.out gf2 F3 HA2.out BD2.out).mono ?_; rintro e V4 ⟨rfl, hS⟩; have S4 := Lib.hid hS; clear hS))
  clear c0 c1 c2 c3 c4 c5 c6 c7 c8 c9
  have HPL := Lib.hid (fun p => intra_plain (IC.S ⟨M, vb, n, g, w.heap.size, v5.heap.size, gi, gf, N, 1 + q1⟩) f0 F2 HC.out p)
  have S4' : Hid (IK ⟨M, vb, n, g, w.heap.size, v5.heap.size, gi, gf, N, 1 + q1⟩ w V4 (layS n g M.ad (IC.S ⟨M, vb, n, g, w.heap.size, v5.heap.size, gi, gf, N, 1 + q1⟩) f0 6) (layS n g M.ad (IC.S ⟨M, vb, n, g, w.heap.size, v5.heap.size, gi, gf, N, 1 + q1⟩) F2 6)) := Lib.hid S4.out
  obtain ⟨X, hX⟩ : ∃ X, layS n g M.ad (IC.S ⟨M, vb, n, g, w.heap.size, v5.heap.size, gi, gf, N, 1 + q1⟩) f0 6 = X := ⟨_, rfl⟩
  obtain ⟨Y, hY⟩ : ∃ Y, layS n g M.ad (IC.S ⟨M, vb, n, g, w.heap.size, v5.heap.size, gi, gf, N, 1 + q1⟩) F2 6 = Y := ⟨_, rfl⟩
  rw [hX, hY] at HPL S4'
  clear S4 hX hY
  go_wp2_with fail
  refine (CopyBytes_any _ N Y _ (by omega) (arr_part S4'.out.y N0 (Nat.le_refl _) Nm)).mono ?_
  rintro e v8 ⟨gz, cz, rfl, n2, n3, n4, n5, hL, h5⟩
  have S5 := Lib.hid (S4'.out.below KK.out h5)
  have hgx : gi < V4.heap.size := S4'.out.x.lt N0
  have hgy : gf < V4.heap.size := S4'.out.y.lt N0
  have s0 := S5.out.spot.cell 0 _ rfl
  have s1 := S5.out.spot.cell 1 _ rfl
  have s2 := S5.out.spot.cell 2 _ rfl
  have HZ := Lib.hid hL
  have CP : Hid (Calls Tryz.prog 32 #[.slice (some ⟨gz, 0, none⟩) N cz, .slice (some ⟨gi, 0, none⟩) N N, .agg #[.int .i64 n, .int .i64 g, .int .i64 M.ad]] v8 fun e w' => e = .returned (.int .i64 0) ∧ Arr w' .u8 gz N (Pa.copF n g M.ad X Y 6) ∧ v8.grownBy w' (some gz)) := Lib.hid (by
    have e0 := Pa.copE_ok HC.out HN.out HN.out
    have := Pa.Copy_any gz N N cz (some ⟨gi, 0, none⟩) N N Y X n g M.ad v8 HZ.out (Nat.le_refl _) n4 N0 (arr_part S5.out.x N0 (Nat.le_refl _) Nm) (fun _ x e => by cases e; show gi ≠ gz; omega)
    unfold Pa.copG at this
    rw [e0, if_pos rfl] at this
    exact this)
  clear hL h5 S4' HZ
  have lz : w.heap.size ≤ gz := by
    have h1 := S5.out.bel.size
    have h2 : w.heap.size ≤ gi := KK.out.b.2.2.1
    omega
  have hzy : gf ≠ gz := by omega
  go_wp2_with fail
  refine CP.out.mono ?_
  rintro e v9 ⟨rfl, hA, hG⟩
  have A1 := Lib.hid (arr_part (S5.out.y.grown hG (fun e => hzy (Option.some.inj e))) N0 (Nat.le_refl _) Nm)
  have A2 := Lib.hid (arr_part hA N0 n4 n5)
  have HB9 := Lib.hid (S5.out.bel.grown hG S5.out.bel.size (fun q e => by have := Option.some.inj e; omega))
  clear hA hG s0 s1 s2
  go_wp2_with fail
  refine (SameBytes_true _ _ _ _ _ _ A1.out A2.out (fun i _ => HPL.out i)).mono ?_
  rintro e w7 ⟨rfl, rfl⟩
  go_wp2_with fail
  go_ret
  exact ⟨rfl, HB9.out⟩
end Bl
end Go.Proofs.YtbmglemjfodfhaaGreat
