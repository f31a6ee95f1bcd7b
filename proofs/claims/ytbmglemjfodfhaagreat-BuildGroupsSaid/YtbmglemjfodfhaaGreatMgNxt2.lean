/- slices.Grow (of nothing), slices.Concat (of three rows), frame.Next. | frame.Next. -/
import Derived.Test.YtbmglemjfodfhaaGreatMgFr3
import Derived.Lib.AppendZerosOnto
set_option linter.unusedVariables false
set_option linter.unusedSimpArgs false
namespace Go.Proofs.YtbmglemjfodfhaaGreat
open Go.RowKit
namespace Nx
open Fr
set_option maxRecDepth 100000 in
theorem Grow_zeros (n : Nat) (h1 : 0 < n) (h2 : n ≤ 100000) (w : World) : Calls Tryz.prog 171 #[.slice none 0 0, .int .i64 (n : Int)] w fun e w' => ∃ v, e = .returned v ∧ w'.ownsRow w.heap.size 3 1 v 0 [] ∧ Below w.heap.size w w' := by
  obtain ⟨i0, hi, hz0, hz1, hz2⟩ := info_parts info_int
  have hold : (Builtin.firstCells i0.size 0 (.slice none 0 0)).run Tryz.prog w.drew = .ok ([] : List Value).toArray w.drew := run_firstCells_none w.drew i0.size 0 0 0
  have hG := grownCap_le_maxLen w n 0 3 (by unfold maxLen; omega)
  have hGn : n ≤ grownCap w n 0 3 := grownCap_ge w _ _ _
  have hrz : ∀ ty, (Builtin.append_ #[87, 3] ty #[.slice none 0 0, .int .i64 (n : Int)]).run Tryz.prog w =
      .ok (.slice (some ⟨w.heap.size, 0, none⟩) n (grownCap w n 0 3)) (w.drew.alloc (.cells (([] : List Value).toArray ++ Builtin.zeroCells (Value.int .i64 0).cells n ++ Builtin.zeroCells (Value.int .i64 0).cells (grownCap w n 0 3 - n)) 3)) := fun ty => by
    have h := Lib.run_append_grow_zeros w 87 3 ty 3 i0 (.int .i64 0) .i64 .i64 Tryz.underlying87 Tryz.underlying3 hi hz0 none 0 0 [] hold n h1 (by omega) (by omega) (by omega) (by rw [hz2]; omega) (growslice_fits (by omega) (by rw [hz2]; omega))
    rw [Nat.zero_add] at h
    exact h
  obtain ⟨G, hGe⟩ : ∃ G, grownCap w n 0 3 = G := ⟨_, rfl⟩
  rw [hGe] at hrz hG hGn
  have OW := Lib.hid (World.ownsRow_made (base := w.heap.size) (e := 3) (size := 1) w.drew (([] : List Value).toArray ++ Builtin.zeroCells (Value.int .i64 0).cells n ++ Builtin.zeroCells (Value.int .i64 0).cells (G - n)) G (Nat.le_refl _) hG (by simp [size_zeroCells, Value.cells]; omega))
  have HB := Lib.hid ((Below.refl w.heap.size w).drew.alloc (Nat.le_refl _) (.cells (([] : List Value).toArray ++ Builtin.zeroCells (Value.int .i64 0).cells n ++ Builtin.zeroCells (Value.int .i64 0).cells (G - n)) 3))
  have hGx : G ≤ 9223372036854775807 := by unfold maxLen at hG; omega
  obtain ⟨cs, hcs⟩ : ∃ cs, (([] : List Value).toArray ++ Builtin.zeroCells (Value.int .i64 0).cells n ++ Builtin.zeroCells (Value.int .i64 0).cells (G - n)) = cs := ⟨_, rfl⟩
  rw [hcs] at hrz OW HB
  clear hold hGe hcs hG
  have hn0 : (0 : Int) < (n : Int) := by omega
  go_enter Tryz.func171, Tryz.ntmps171
  go_wp2_with (at_builtin; refine Lib.wpList_append_run _ rfl _ _ _ _ rfl _ _ rfl rfl _ _ (hrz _) ?_)
  go_ret
  exact ⟨_, rfl, OW.out, HB.out⟩
def catN (M : Nat → Nat) : Nat → Nat | 0 => 0 | k + 1 => catN M k + M k
def catV (M : Nat → Nat) (G : Nat → Nat → Int) : Nat → List Value | 0 => [] | k + 1 => catV M G k ++ (List.range (M k)).map fun i => .int .i64 (G k i)
theorem catN_bd {M : Nat → Nat} (h : ∀ k, k < 3 → 0 < M k ∧ M k ≤ 1000) : ∀ k, k ≤ 3 → k ≤ catN M k ∧ catN M k ≤ 1000 * k
  | 0, _ => by simp [catN]
  | k + 1, hk => by
    have h1 := catN_bd h k (by omega)
    have h2 := h k (by omega)
    rw [catN]; omega
set_option maxRecDepth 100000 in
set_option maxHeartbeats 2000000 in
theorem Concat_any (b : Nat) (V : Nat → Value) (M : Nat → Nat) (G : Nat → Nat → Int) (w : World) (hb : b < w.heap.size) (hc : ∀ k, k < 3 → w.cell? ⟨b, k, none⟩ = some (V k))
    (hs : ∀ k, k < 3 → ∃ bb o c, V k = .slice (some ⟨bb, o, none⟩) (M k) c ∧ bb < w.heap.size ∧ Ints w .i64 bb o (M k) (G k)) (hM : ∀ k, k < 3 → 0 < M k ∧ M k ≤ 1000) :
    Calls Tryz.prog 155 #[.slice (some ⟨b, 0, none⟩) 3 3] w fun e w' => ∃ v, e = .returned v ∧ w'.ownsRow w.heap.size 3 1 v (catN M 3) (catV M G 3) ∧ Below w.heap.size w w' := by
  obtain ⟨i0, hi, hz0, hz1, hz2⟩ := info_parts info_int
  have HC := Lib.hid hc
  have HS := Lib.hid hs
  have CN := Lib.hid (catN_bd hM)
  have HM := Lib.hid hM
  clear hc hs hM
  go_enter Tryz.func155, Tryz.ntmps155
  go_wp2_with fail
  go_loopw [3, 11] (fun s i wr => ∃ k : Nat, k ≤ 3 ∧ s = .int .i64 (catN M k : Nat) ∧ i = .int .i64 k ∧ wr = w) (fun _ i _ => 3 - (intOf i).toNat)
  case atStart => exact ⟨0, by omega, rfl, rfl, rfl⟩
  case round =>
    obtain ⟨k, hk, rfl, rfl, hw⟩ := hrel
    have hw' := hw.symm
    subst hw'
    by_cases hk3 : k < 3
    · obtain ⟨bb, o, c, hv, _, _⟩ := HS.out k hk3
      have ck := HC.out k hk3
      rw [hv] at ck
      have n1 := CN.out k hk
      have n2 := HM.out k hk3
      have kb : (0 : Int) ≤ (k : Int) ∧ (k : Int) < 3 := by omega
      have nb : (0 : Int) ≤ ((catN M k : Nat) : Int) + ((M k : Nat) : Int) ∧ ((catN M k : Nat) : Int) + ((M k : Nat) : Int) ≤ 100000 := by omega
      have nn : decide (((catN M k : Nat) : Int) + ((M k : Nat) : Int) < 0) = false := decide_eq_false (by omega)
      clear hv
      go_wp2_with fail
      go_roundw
      case rel => exact ⟨k + 1, by omega, by rw [catN]; go_num, by go_num, by trivial⟩
      case measure => simp [intOf]; omega
    · obtain rfl : k = 3 := by omega
      have n1 := CN.out 3 (by omega)
      obtain ⟨n, hn⟩ : ∃ n, catN M 3 = n := ⟨_, rfl⟩
      rw [hn] at n1 ⊢
      go_wp2_with fail
      refine (Grow_zeros n (by omega) (by omega) _).mono ?_
      rintro e w1 ⟨v1, rfl, hown, hB⟩
      have OWN := Lib.hid hown
      have HB := Lib.hid hB
      clear hown hB
      go_wp2_with fail
      go_loopw [6, 27] (fun v i wX => ∃ k : Nat, k ≤ 3 ∧ i = .int .i64 k ∧ wX.ownsRow w.heap.size 3 1 v (catN M k) (catV M G k) ∧ Below w.heap.size w wX) (fun _ i _ => 3 - (intOf i).toNat)
      case atStart => exact ⟨0, by omega, rfl, OWN.out, HB.out⟩
      case round =>
        obtain ⟨k, hk, rfl, hown, hB⟩ := hrel
        have OWN := Lib.hid hown
        have HB := Lib.hid hB
        have sz := hB.size
        clear hown hB
        by_cases hk3 : k < 3
        · obtain ⟨bb, o, c, hv, hbb, hI⟩ := HS.out k hk3
          have ck := (HB.out.cell (p := ⟨b, k, none⟩) hb).trans (HC.out k hk3)
          rw [hv] at ck
          have n1 := CN.out k hk
          have n2 := HM.out k hk3
          have kb : (0 : Int) ≤ (k : Int) ∧ (k : Int) < 3 := by omega
          have NW := Lib.hid (news_ints (hI.below HB.out hbb))
          have OW := Lib.hid (one_cells .i64 (M k) (G k))
          clear hv hI
          go_wp2_with (at_builtin; go_loud (refine wpList_append_own _ rfl _ _ 87 rfl w.heap.size 3 i0 (.int .i64 0) 1 8 Tryz.underlying87 hi hz0 hz1 hz2 rfl (by decide) _ _ _ rfl OWN.out ⟨bb, o, none⟩ (M k) c ((List.range (M k)).map fun i => Value.int .i64 (G k i)) rfl (by simp) NW.out OW.out (by unfold maxLen; omega) (by omega) sz ?_); intro v' w2 hown2 hgr hnil)
          have hB2 : Hid (Below w.heap.size w w2) := Lib.hid (HB.out.grown hgr sz (fun q hq => (OWN.out.lt q hq).1))
          have OW2 := Lib.hid hown2
          clear hown2 hgr hnil
          go_wp2_with fail
          go_roundw
          case rel => exact ⟨k + 1, by omega, by go_num, OW2.out, hB2.out⟩
          case measure => simp [intOf]; omega
        · obtain rfl : k = 3 := by omega
          go_wp2_with fail
          go_ret
          exact ⟨_, rfl, by rw [← hn]; exact OWN.out, HB.out⟩
end Nx
end Go.Proofs.YtbmglemjfodfhaaGreat
namespace Go.Proofs.YtbmglemjfodfhaaGreat
open Go.RowKit
namespace Nx
open Fr
def cF (n : Int) (i : Nat) : Int := if i = 0 then 0 else if i ≤ grN n then grF n (i - 1) else 0
def nV (n g : Int) : Int := if n = 0 ∨ n = 1 then (if g = 0 then 1 else if inG n g = true then (if g = (if n = 0 then 5 else 12) then 0 else g + (2 - n)) else 0) else 0
def nEr (n g : Int) : Int := if n = 0 ∨ n = 1 then (if g = 0 ∨ inG n g = true then 0 else 8) else 3
theorem next_ix (n g : Int) (hn : n = 0 ∨ n = 1) (h : g = 0 ∨ inG n g = true) : ∃ j : Nat, j ≤ grN n ∧ ixF (cF n) g (grN n + 2) = (j : Int) ∧ cF n (j + 1) = nV n g := by
  rcases hn with rfl | rfl
  · rw [inG_0, decide_eq_true_eq] at h
    rcases h with rfl | rfl | rfl | rfl
    · exact ⟨0, by decide, by decide +kernel, by decide +kernel⟩
    · exact ⟨1, by decide, by decide +kernel, by decide +kernel⟩
    · exact ⟨2, by decide, by decide +kernel, by decide +kernel⟩
    · exact ⟨3, by decide, by decide +kernel, by decide +kernel⟩
  · rw [inG_1, decide_eq_true_eq] at h
    have h' : g = 0 ∨ g = 1 ∨ g = 2 ∨ g = 3 ∨ g = 4 ∨ g = 5 ∨ g = 6 ∨ g = 7 ∨ g = 8 ∨ g = 9 ∨ g = 10 ∨ g = 11 ∨ g = 12 := by omega
    clear h
    refine ⟨g.toNat, ?_⟩
    rcases h' with rfl | rfl | rfl | rfl | rfl | rfl | rfl | rfl | rfl | rfl | rfl | rfl | rfl <;> exact ⟨by decide +kernel, by decide +kernel, by decide +kernel⟩
theorem next_no (n g : Int) (hn : n = 0 ∨ n = 1) (h : ¬ (g = 0 ∨ inG n g = true)) : ixF (cF n) g (grN n + 2) = -1 := by
  refine ixF_no _ fun k hk => ?_
  rcases hn with rfl | rfl
  · rw [inG_0, decide_eq_true_eq] at h
    rcases (by have : grN 0 = 3 := rfl; omega : k = 0 ∨ k = 1 ∨ k = 2 ∨ k = 3 ∨ k = 4) with rfl | rfl | rfl | rfl | rfl <;> simp only [cF, grF, grN] <;> simp <;> omega
  · rw [inG_1, decide_eq_true_eq] at h
    have e : grN 1 = 12 := rfl
    unfold cF
    rw [e]
    split
    · omega
    · split
      · unfold grF; omega
      · omega
def nM (N k : Nat) : Nat := if k = 1 then N else 1
def nG (n : Int) (k i : Nat) : Int := if k = 1 then grF n i else 0
theorem cat_eq (n : Int) : catN (nM (grN n)) 3 = grN n + 2 ∧ catV (nM (grN n)) (nG n) 3 = (List.range (grN n + 2)).map fun i => .int .i64 (cF n i) := by
  constructor
  · simp [catN, nM]
    try omega
  · obtain ⟨N, hN⟩ : ∃ N, grN n = N := ⟨_, rfl⟩
    apply List.ext_getElem
    · simp [catV, nM, hN]
      try omega
    · intro i h1 h2
      simp only [catV, nM, nG, cF, hN]
      simp only [List.length_map, List.length_range] at h2
      rcases Nat.lt_or_ge i 1 with h3 | h3
      · obtain rfl : i = 0 := by omega
        simp
      · rcases Nat.lt_or_ge i (N + 1) with h4 | h4
        · rw [List.getElem_append_left (by simp; omega), List.getElem_append_right (by simp; omega)]
          simp only [List.getElem_map, List.getElem_range, List.length_append, List.length_map, List.length_range, List.length_nil, List.getElem_range, if_pos rfl]
          simp
          rw [if_neg (by omega), if_pos (by omega)]
        · rw [List.getElem_append_right (by simp; omega)]
          simp
          omega
theorem nt_small (n : Int) (hn : n = 0 ∨ n = 1) : 3 ≤ grN n ∧ grN n ≤ 12 := by rcases hn with rfl | rfl <;> decide
set_option maxRecDepth 100000 in
theorem Next_ok (n g : Int) (hn : n = 0 ∨ n = 1) (w : World) :
    Calls Tryz.prog 123 #[.int .i64 n, .int .i64 g] w fun e w' => e = .returned (.tuple #[.int .i64 (nV n g), .int .i64 (nEr n g)]) ∧ Below w.heap.size w w' := by
  have FE : Hid (fE n = 0) := Lib.hid (by unfold fE; rw [if_pos hn])
  have NB := nt_small n hn
  have CE := Lib.hid (cat_eq n)
  have HN := Lib.hid hn
  obtain ⟨N, hN⟩ : ∃ N, grN n = N := ⟨_, rfl⟩
  rw [hN] at NB CE
  have HNe := Lib.hid hN
  clear hn hN
  go_enter Tryz.func123, Tryz.ntmps123
  go_wp2_with fail
  refine (Groups_any n _).mono ?_
  rintro e w1 ⟨v, rfl, hR, b1⟩
  rw [FE.out]
  rw [HNe.out] at hR
  rcases hR with ⟨h0, _⟩ | ⟨gg, c, rfl, h1, h2, h3, h4, hA⟩
  · exfalso; omega
  have cw1 := heap_alloc_new (((w1.alloc (.cells #[.int .i64 0] 3)).alloc (.cells #[.int .i64 0] 3))) (.cells #[.slice (some ⟨w1.heap.size, 0, none⟩) 1 1, .slice (some ⟨gg, 0, none⟩) N c, .slice (some ⟨w1.heap.size + 1, 0, none⟩) 1 1] 87)
  have bw : Below w1.heap.size w1 (((w1.alloc (.cells #[.int .i64 0] 3)).alloc (.cells #[.int .i64 0] 3)).alloc (.cells #[.slice (some ⟨w1.heap.size, 0, none⟩) 1 1, .slice (some ⟨gg, 0, none⟩) N c, .slice (some ⟨w1.heap.size + 1, 0, none⟩) 1 1] 87)) := (((Below.refl w1.heap.size w1).alloc (Nat.le_refl _) _).alloc (by simp) _).alloc (by simp; omega) _
  have hz0 : (((w1.alloc (.cells #[.int .i64 0] 3)).alloc (.cells #[.int .i64 0] 3)).alloc (.cells #[.slice (some ⟨w1.heap.size, 0, none⟩) 1 1, .slice (some ⟨gg, 0, none⟩) N c, .slice (some ⟨w1.heap.size + 1, 0, none⟩) 1 1] 87)).heap[w1.heap.size]? = some (.cells #[.int .i64 0] 3 (0, 0)) :=
    (Below.heap_alloc _ _ _ (by simp; omega)).trans ((Below.heap_alloc _ _ _ (by simp)).trans (heap_alloc_new w1 _))
  have hz1 : (((w1.alloc (.cells #[.int .i64 0] 3)).alloc (.cells #[.int .i64 0] 3)).alloc (.cells #[.slice (some ⟨w1.heap.size, 0, none⟩) 1 1, .slice (some ⟨gg, 0, none⟩) N c, .slice (some ⟨w1.heap.size + 1, 0, none⟩) 1 1] 87)).heap[w1.heap.size + 1]? = some (.cells #[.int .i64 0] 3 (0, 0)) :=
    (Below.heap_alloc _ _ _ (by simp)).trans (by have := heap_alloc_new (w1.alloc (.cells #[.int .i64 0] 3)) (.cells #[.int .i64 0] 3); rwa [World.size_alloc] at this)
  rw [World.size_alloc, World.size_alloc] at cw1
  have HZ0 := Lib.hid hz0
  have HZ1 := Lib.hid hz1
  have HA := Lib.hid hA
  have HB := Lib.hid b1
  have BW := Lib.hid bw
  obtain ⟨W3, hW3⟩ : ∃ W3, (((w1.alloc (.cells #[.int .i64 0] 3)).alloc (.cells #[.int .i64 0] 3)).alloc (.cells #[.slice (some ⟨w1.heap.size, 0, none⟩) 1 1, .slice (some ⟨gg, 0, none⟩) N c, .slice (some ⟨w1.heap.size + 1, 0, none⟩) 1 1] 87)) = W3 := ⟨_, rfl⟩
  have CW := Lib.hid cw1
  clear hA b1 hz0 hz1 bw cw1
  go_wp2_with fail
  rw [hW3] at CW HZ0 HZ1 BW
  clear hW3
  have hgl := Nat.lt_of_lt_of_le h2 BW.out.size
  have HA3 := Lib.hid (HA.out.below BW.out h2)
  have sz : w1.heap.size + 1 < W3.heap.size := (Array.getElem?_eq_some_iff.1 HZ1.out).1
  refine (Concat_any (w1.heap.size + 1 + 1) (fun k => if k = 0 then .slice (some ⟨w1.heap.size, 0, none⟩) 1 1 else if k = 1 then .slice (some ⟨gg, 0, none⟩) N c else .slice (some ⟨w1.heap.size + 1, 0, none⟩) 1 1) (nM N) (nG n) W3 ?_ ?_ ?_ ?_).mono ?_
  · exact (Array.getElem?_eq_some_iff.1 CW.out).1
  · intro k hk
    rcases (by omega : k = 0 ∨ k = 1 ∨ k = 2) with rfl | rfl | rfl <;> simp [World.cell?, CW.out]
  · intro k hk
    rcases (by omega : k = 0 ∨ k = 1 ∨ k = 2) with rfl | rfl | rfl
    · refine ⟨w1.heap.size, 0, 1, rfl, by omega, fun i hi => ?_⟩
      have hi' : i < 1 := hi
      obtain rfl : i = 0 := by omega
      simp [World.cell?, HZ0.out, nG]
    · refine ⟨gg, 0, c, rfl, by omega, fun i hi => ?_⟩
      rw [Nat.zero_add]
      have := (HA3.out i hi).1
      simpa [nG] using this
    · refine ⟨w1.heap.size + 1, 0, 1, rfl, by omega, fun i hi => ?_⟩
      have hi' : i < 1 := hi
      obtain rfl : i = 0 := by omega
      simp [World.cell?, HZ1.out, nG]
  · intro k hk
    unfold nM
    split <;> omega
  · rintro e w4 ⟨v, rfl, hown, b4⟩
    rw [CE.out.1, CE.out.2] at hown
    have hR := Res.of_own hown
    rcases hR with ⟨h0, _⟩ | ⟨g2, c2, rfl, k1, k2, k3, k4, hA2⟩
    · exfalso; omega
    have SLR : Hid (Sl .i64 w4 (.slice (some ⟨g2, 0, none⟩) (N + 2) c2) (N + 2) (cF n)) := Lib.hid ((Res.of_own hown).sl)
    have HA2 := Lib.hid hA2
    have HB := Lib.hid (chain (chain HB.out BW.out) b4)
    clear hown b4 HA HA3 HZ0 HZ1 BW CW hA2
    go_wp2_with fail
    refine (Index_any _ (N + 2) (cF n) g _ SLR.out (by omega)).mono ?_
    rintro e w5 ⟨rfl, rfl⟩
    by_cases h : g = 0 ∨ inG n g = true
    · obtain ⟨j, j1, j2, j3⟩ := next_ix n g HN.out h
      rw [HNe.out] at j1 j2
      rw [j2]
      have E1 : Hid (nEr n g = 0) := Lib.hid (by unfold nEr; rw [if_pos HN.out, if_pos h])
      have cj := (HA2.out (j + 1) (by omega)).1
      rw [j3] at cj
      obtain ⟨x, hx⟩ : ∃ x, nV n g = x := ⟨_, rfl⟩
      rw [hx] at cj
      have HX := Lib.hid hx
      have jb : (0 : Int) ≤ (j : Int) + 1 ∧ (j : Int) + 1 < ((N + 2 : Nat) : Int) := by omega
      have jn : decide ((j : Int) < 0) = false := decide_eq_false (by omega)
      clear j2 j3 hx h
      go_wp2_with fail
      go_ret2
      exact ⟨by rw [E1.out, HX.out]; rfl, HB.out⟩
    · rw [← HNe.out, next_no n g HN.out h]
      have E1 : Hid (nEr n g = 8) := Lib.hid (by unfold nEr; rw [if_pos HN.out, if_neg h])
      have E2 : Hid (nV n g = 0) := Lib.hid (by unfold nV; rw [if_pos HN.out, if_neg (fun e => h (.inl e)), if_neg (fun e => h (.inr e))])
      clear h
      go_wp2_with fail
      go_ret2
      exact ⟨by rw [E1.out, E2.out]; rfl, HB.out⟩
theorem Next_no (n g : Int) (hn : ¬ (n = 0 ∨ n = 1)) (w : World) :
    Calls Tryz.prog 123 #[.int .i64 n, .int .i64 g] w fun e w' => e = .returned (.tuple #[.int .i64 (nV n g), .int .i64 (nEr n g)]) ∧ Below w.heap.size w w' := by
  have FE : Hid (fE n = 3) := Lib.hid (by unfold fE; rw [if_neg hn])
  have E1 : Hid (nEr n g = 3) := Lib.hid (by unfold nEr; rw [if_neg hn])
  have E2 : Hid (nV n g = 0) := Lib.hid (by unfold nV; rw [if_neg hn])
  clear hn
  go_enter Tryz.func123, Tryz.ntmps123
  go_wp2_with fail
  refine (Groups_any n _).mono ?_
  rintro e w1 ⟨v, rfl, hR, b1⟩
  rw [FE.out]
  have HB := Lib.hid b1
  clear hR b1
  go_wp2_with fail
  go_ret2
  exact ⟨by rw [E1.out, E2.out]; rfl, HB.out⟩
theorem Next_any (n g : Int) (w : World) :
    Calls Tryz.prog 123 #[.int .i64 n, .int .i64 g] w fun e w' => e = .returned (.tuple #[.int .i64 (nV n g), .int .i64 (nEr n g)]) ∧ Below w.heap.size w w' := by
  by_cases hn : n = 0 ∨ n = 1
  · exact Next_ok n g hn w
  · exact Next_no n g hn w
end Nx
end Go.Proofs.YtbmglemjfodfhaaGreat
