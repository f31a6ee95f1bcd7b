/- frame.Next. -/
import Derived.Test.YtbmglemjfodfhaaGreatMgNxt
set_option linter.unusedVariables false
set_option linter.unusedSimpArgs false

namespace Go.Proofs.YtbmglemjfodfhaaGreat
open Go.RowKit
namespace Nx
open Fr

def cF (n : Int) (i : Nat) : Int := if i = 0 then 0 else if i ≤ grN n then grF n (i - 1) else 0
def nV (n g : Int) : Int := if n = 0 ∨ n = 1 then (if g = 0 then 1 else if inG n g = true then (if g = (if n = 0 then 5 else 12) then 0 else g + (2 - n)) else 0) else 0
def nEr (n g : Int) : Int := if n = 0 ∨ n = 1 then (if g = 0 ∨ inG n g = true then 0 else 8) else 3
theorem next_ix (n g : Int) (hn : n = 0 ∨ n = 1) (h : g = 0 ∨ inG n g = true) : ∃ j : Nat, j ≤ grN n ∧ ixF (cF n) g (grN n + 2) = (j : Int) ∧ cF n (j + 1) = nV n g := by
  rcases hn with rfl | rfl
  · rw [inG_0, decide_eq_true_eq] at h
    rcases h with rfl | rfl | rfl | rfl
    · exact ⟨0, by decide, by decide +kernel, by decide +kernel⟩
    · exact ⟨1, by decide, by decide +kernel, by decide +kernel⟩
    · exact ⟨2, by decide, by decide +kernel, by decide +kernel⟩
    · exact ⟨3, by decide, by decide +kernel, by decide +kernel⟩
  · rw [inG_1, decide_eq_true_eq] at h
    have h' : g = 0 ∨ g = 1 ∨ g = 2 ∨ g = 3 ∨ g = 4 ∨ g = 5 ∨ g = 6 ∨ g = 7 ∨ g = 8 ∨ g = 9 ∨ g = 10 ∨ g = 11 ∨ g = 12 := by omega
    clear h
    refine ⟨g.toNat, ?_⟩
    rcases h' with rfl | rfl | rfl | rfl | rfl | rfl | rfl | rfl | rfl | rfl | rfl | rfl | rfl <;> exact ⟨by decide +kernel, by decide +kernel, by decide +kernel⟩
theorem next_no (n g : Int) (hn : n = 0 ∨ n = 1) (h : ¬ (g = 0 ∨ inG n g = true)) : ixF (cF n) g (grN n + 2) = -1 := by
  refine ixF_no _ fun k hk => ?_
  rcases hn with rfl | rfl
  · rw [inG_0, decide_eq_true_eq] at h
    rcases (by have : grN 0 = 3 := rfl; omega : k = 0 ∨ k = 1 ∨ k = 2 ∨ k = 3 ∨ k = 4) with rfl | rfl | rfl | rfl | rfl <;> simp only [cF, grF, grN] <;> simp <;> omega
  · rw [inG_1, decide_eq_true_eq] at h
    have e : grN 1 = 12 := rfl
    unfold cF
    rw [e]
    split
    · omega
    · split
      · unfold grF; omega
      · omega
def nM (N k : Nat) : Nat := if k = 1 then N else 1
def nG (n : Int) (k i : Nat) : Int := if k = 1 then grF n i else 0
theorem cat_eq (n : Int) : catN (nM (grN n)) 3 = grN n + 2 ∧ catV (nM (grN n)) (nG n) 3 = (List.range (grN n + 2)).map fun i => .int .i64 (cF n i) := by
  constructor
  · simp [catN, nM]
    try omega
  · obtain ⟨N, hN⟩ : ∃ N, grN n = N := ⟨_, rfl⟩
    apply List.ext_getElem
    · simp [catV, nM, hN]
      try omega
    · intro i h1 h2
      simp only [catV, nM, nG, cF, hN]
      simp only [List.length_map, List.length_range] at h2
      rcases Nat.lt_or_ge i 1 with h3 | h3
      · obtain rfl : i = 0 := by omega
        simp
      · rcases Nat.lt_or_ge i (N + 1) with h4 | h4
        · rw [List.getElem_append_left (by simp; omega), List.getElem_append_right (by simp; omega)]
          simp only [List.getElem_map, List.getElem_range, List.length_append, List.length_map, List.length_range, List.length_nil, List.getElem_range, if_pos rfl]
          simp
          rw [if_neg (by omega), if_pos (by omega)]
        · rw [List.getElem_append_right (by simp; omega)]
          simp
          omega
theorem nt_small (n : Int) (hn : n = 0 ∨ n = 1) : 3 ≤ grN n ∧ grN n ≤ 12 := by rcases hn with rfl | rfl <;> decide

set_option maxRecDepth 100000 in
theorem Next_ok (n g : Int) (hn : n = 0 ∨ n = 1) (w : World) :
    Calls Tryz.prog 123 #[.int .i64 n, .int .i64 g] w fun e w' => e = .returned (.tuple #[.int .i64 (nV n g), .int .i64 (nEr n g)]) ∧ Below w.heap.size w w' := by
  have FE : Hid (fE n = 0) := Lib.hid (by unfold fE; rw [if_pos hn])
  have NB := nt_small n hn
  have CE := Lib.hid (cat_eq n)
  have HN := Lib.hid hn
  obtain ⟨N, hN⟩ : ∃ N, grN n = N := ⟨_, rfl⟩
  rw [hN] at NB CE
  have HNe := Lib.hid hN
  clear hn hN
  go_enter Tryz.func123, Tryz.ntmps123
  go_wp2_with fail
  refine (Groups_any n _).mono ?_
  rintro e w1 ⟨v, rfl, hR, b1⟩
  rw [FE.out]
  rw [HNe.out] at hR
  rcases hR with ⟨h0, _⟩ | ⟨gg, c, rfl, h1, h2, h3, h4, hA⟩
  · exfalso; omega
  have cw1 := heap_alloc_new (((w1.alloc (.cells #[.int .i64 0] 3)).alloc (.cells #[.int .i64 0] 3))) (.cells #[.slice (some ⟨w1.heap.size, 0, none⟩) 1 1, .slice (some ⟨gg, 0, none⟩) N c, .slice (some ⟨w1.heap.size + 1, 0, none⟩) 1 1] 87)
  have bw : Below w1.heap.size w1 (((w1.alloc (.cells #[.int .i64 0] 3)).alloc (.cells #[.int .i64 0] 3)).alloc (.cells #[.slice (some ⟨w1.heap.size, 0, none⟩) 1 1, .slice (some ⟨gg, 0, none⟩) N c, .slice (some ⟨w1.heap.size + 1, 0, none⟩) 1 1] 87)) := (((Below.refl w1.heap.size w1).alloc (Nat.le_refl _) _).alloc (by simp) _).alloc (by simp; omega) _
  have hz0 : (((w1.alloc (.cells #[.int .i64 0] 3)).alloc (.cells #[.int .i64 0] 3)).alloc (.cells #[.slice (some ⟨w1.heap.size, 0, none⟩) 1 1, .slice (some ⟨gg, 0, none⟩) N c, .slice (some ⟨w1.heap.size + 1, 0, none⟩) 1 1] 87)).heap[w1.heap.size]? = some (.cells #[.int .i64 0] 3 (0, 0)) :=
    (Below.heap_alloc _ _ _ (by simp; omega)).trans ((Below.heap_alloc _ _ _ (by simp)).trans (heap_alloc_new w1 _))
  have hz1 : (((w1.alloc (.cells #[.int .i64 0] 3)).alloc (.cells #[.int .i64 0] 3)).alloc (.cells #[.slice (some ⟨w1.heap.size, 0, none⟩) 1 1, .slice (some ⟨gg, 0, none⟩) N c, .slice (some ⟨w1.heap.size + 1, 0, none⟩) 1 1] 87)).heap[w1.heap.size + 1]? = some (.cells #[.int .i64 0] 3 (0, 0)) :=
    (Below.heap_alloc _ _ _ (by simp)).trans (by have := heap_alloc_new (w1.alloc (.cells #[.int .i64 0] 3)) (.cells #[.int .i64 0] 3); rwa [World.size_alloc] at this)
  rw [World.size_alloc, World.size_alloc] at cw1
  have HZ0 := Lib.hid hz0
  have HZ1 := Lib.hid hz1
  have HA := Lib.hid hA
  have HB := Lib.hid b1
  have BW := Lib.hid bw
  obtain ⟨W3, hW3⟩ : ∃ W3, (((w1.alloc (.cells #[.int .i64 0] 3)).alloc (.cells #[.int .i64 0] 3)).alloc (.cells #[.slice (some ⟨w1.heap.size, 0, none⟩) 1 1, .slice (some ⟨gg, 0, none⟩) N c, .slice (some ⟨w1.heap.size + 1, 0, none⟩) 1 1] 87)) = W3 := ⟨_, rfl⟩
  have CW := Lib.hid cw1
  clear hA b1 hz0 hz1 bw cw1
  go_wp2_with fail
  rw [hW3] at CW HZ0 HZ1 BW
  clear hW3
  have hgl := Nat.lt_of_lt_of_le h2 BW.out.size
  have HA3 := Lib.hid (HA.out.below BW.out h2)
  have sz : w1.heap.size + 1 < W3.heap.size := (Array.getElem?_eq_some_iff.1 HZ1.out).1
  refine (Concat_any (w1.heap.size + 1 + 1) (fun k => if k = 0 then .slice (some ⟨w1.heap.size, 0, none⟩) 1 1 else if k = 1 then .slice (some ⟨gg, 0, none⟩) N c else .slice (some ⟨w1.heap.size + 1, 0, none⟩) 1 1) (nM N) (nG n) W3 ?_ ?_ ?_ ?_).mono ?_
  · exact (Array.getElem?_eq_some_iff.1 CW.out).1
  · intro k hk
    rcases (by omega : k = 0 ∨ k = 1 ∨ k = 2) with rfl | rfl | rfl <;> simp [World.cell?, CW.out]
  · intro k hk
    rcases (by omega : k = 0 ∨ k = 1 ∨ k = 2) with rfl | rfl | rfl
    · refine ⟨w1.heap.size, 0, 1, rfl, by omega, fun i hi => ?_⟩
      have hi' : i < 1 := hi
      obtain rfl : i = 0 := by omega
      simp [World.cell?, HZ0.out, nG]
    · refine ⟨gg, 0, c, rfl, by omega, fun i hi => ?_⟩
      rw [Nat.zero_add]
      have := (HA3.out i hi).1
      simpa [nG] using this
    · refine ⟨w1.heap.size + 1, 0, 1, rfl, by omega, fun i hi => ?_⟩
      have hi' : i < 1 := hi
      obtain rfl : i = 0 := by omega
      simp [World.cell?, HZ1.out, nG]
  · intro k hk
    unfold nM
    split <;> omega
  · rintro e w4 ⟨v, rfl, hown, b4⟩
    rw [CE.out.1, CE.out.2] at hown
    have hR := Res.of_own hown
    rcases hR with ⟨h0, _⟩ | ⟨g2, c2, rfl, k1, k2, k3, k4, hA2⟩
    · exfalso; omega
    have SLR : Hid (Sl .i64 w4 (.slice (some ⟨g2, 0, none⟩) (N + 2) c2) (N + 2) (cF n)) := Lib.hid ((Res.of_own hown).sl)
    have HA2 := Lib.hid hA2
    have HB := Lib.hid (chain (chain HB.out BW.out) b4)
    clear hown b4 HA HA3 HZ0 HZ1 BW CW hA2
    go_wp2_with fail
    refine (Index_any _ (N + 2) (cF n) g _ SLR.out (by omega)).mono ?_
    rintro e w5 ⟨rfl, rfl⟩
    by_cases h : g = 0 ∨ inG n g = true
    · obtain ⟨j, j1, j2, j3⟩ := next_ix n g HN.out h
      rw [HNe.out] at j1 j2
      rw [j2]
      have E1 : Hid (nEr n g = 0) := Lib.hid (by unfold nEr; rw [if_pos HN.out, if_pos h])
      have cj := (HA2.out (j + 1) (by omega)).1
      rw [j3] at cj
      obtain ⟨x, hx⟩ : ∃ x, nV n g = x := ⟨_, rfl⟩
      rw [hx] at cj
      have HX := Lib.hid hx
      have jb : (0 : Int) ≤ (j : Int) + 1 ∧ (j : Int) + 1 < ((N + 2 : Nat) : Int) := by omega
      have jn : decide ((j : Int) < 0) = false := decide_eq_false (by omega)
      clear j2 j3 hx h
      go_wp2_with fail
      go_ret2
      exact ⟨by rw [E1.out, HX.out]; rfl, HB.out⟩
    · rw [← HNe.out, next_no n g HN.out h]
      have E1 : Hid (nEr n g = 8) := Lib.hid (by unfold nEr; rw [if_pos HN.out, if_neg h])
      have E2 : Hid (nV n g = 0) := Lib.hid (by unfold nV; rw [if_pos HN.out, if_neg (fun e => h (.inl e)), if_neg (fun e => h (.inr e))])
      clear h
      go_wp2_with fail
      go_ret2
      exact ⟨by rw [E1.out, E2.out]; rfl, HB.out⟩
theorem Next_no (n g : Int) (hn : ¬ (n = 0 ∨ n = 1)) (w : World) :
    Calls Tryz.prog 123 #[.int .i64 n, .int .i64 g] w fun e w' => e = .returned (.tuple #[.int .i64 (nV n g), .int .i64 (nEr n g)]) ∧ Below w.heap.size w w' := by
  have FE : Hid (fE n = 3) := Lib.hid (by unfold fE; rw [if_neg hn])
  have E1 : Hid (nEr n g = 3) := Lib.hid (by unfold nEr; rw [if_neg hn])
  have E2 : Hid (nV n g = 0) := Lib.hid (by unfold nV; rw [if_neg hn])
  clear hn
  go_enter Tryz.func123, Tryz.ntmps123
  go_wp2_with fail
  refine (Groups_any n _).mono ?_
  rintro e w1 ⟨v, rfl, hR, b1⟩
  rw [FE.out]
  have HB := Lib.hid b1
  clear hR b1
  go_wp2_with fail
  go_ret2
  exact ⟨by rw [E1.out, E2.out]; rfl, HB.out⟩
theorem Next_any (n g : Int) (w : World) :
    Calls Tryz.prog 123 #[.int .i64 n, .int .i64 g] w fun e w' => e = .returned (.tuple #[.int .i64 (nV n g), .int .i64 (nEr n g)]) ∧ Below w.heap.size w w' := by
  by_cases hn : n = 0 ∨ n = 1
  · exact Next_ok n g hn w
  · exact Next_no n g hn w
end Nx
end Go.Proofs.YtbmglemjfodfhaaGreat
